/- Judge of the program: what a receiver makes of signals. -/
import Derived.Test.YtehgiagefiakkaaB6
import Derived.Test.YtehgiagefiakkaaB65
import Derived.Deep.RegionHeld3
namespace Go.Proofs.Ytehgiagefiakkaa
open Go.RowKit Go.Shelf
open Sched (Sp bad)
open Sig
attribute [local go_sem] Oper.semAt_some

theorem heard_any (a : Option Addr) (L c : Nat) (f t th : Int) (w : World) :
    Calls Try.prog 28 #[.slice a L c, .agg #[.int .i64 f, .int .i64 t], .int .i64 th] w fun e w' => e = .returned (.func (.func 44) #[] #[.pointer (some ⟨w.heap.size, 0, none⟩), .pointer (some ⟨w.heap.size + 1 + 1, 0, none⟩), .pointer (some ⟨w.heap.size + 1, 0, none⟩)]) ∧
      ((w.alloc (.cells #[.slice a L c] 37)).alloc (.cells #[.int .i64 f, .int .i64 t] 23)).alloc (.cells #[.int .i64 th] 3) = w' := by
  go_enter Try.func28, Try.ntmps28
  go_wp2
  go_ret
  exact ⟨rfl, rfl⟩

theorem heard_stops (n : Nat) (hn : 1 ≤ n) (g1 g2 g3 n₀ lo hi : Nat) (v : Value) (l : List Sg) (inn : Sp) (th : Int) (w : World)
    (hn₀ : n₀ ≤ w.heap.size) (h1 : w.cell? ⟨g1, 0, none⟩ = some v) (h2 : w.cell? ⟨g2, 0, none⟩ = some (.int .i64 th)) (h3 : w.cell? ⟨g3, 0, none⟩ = some (.int .i64 inn.1) ∧ w.cell? ⟨g3, 1, none⟩ = some (.int .i64 inn.2))
    (b2 : lo ≤ g2 ∧ g2 < hi) (b3 : lo ≤ g3 ∧ g3 < hi) (hL : ∀ W', Below n₀ w W' → Sgs W' v l) :
    SeqStopsK Fence.wide n Try.prog 44 #[.pointer (some ⟨g1, 0, none⟩), .pointer (some ⟨g2, 0, none⟩), .pointer (some ⟨g3, 0, none⟩)] encN (KP n₀ lo hi) (fun xs => xs = hitsTo l inn th l.length) (fun pre => pre <+: hitsTo l inn th l.length) l.length w :=
  fun y J Jx W hW hJ _ hY h0 => heard1_in n hn y g1 g2 g3 n₀ lo hi v l inn th J Jx W hJ hY (Nat.le_trans hn₀ hW.size) (keepCell hW h1) (keepCell hW h2)
    ⟨keepCell hW h3.1, keepCell hW h3.2⟩ b2 b3 (fun W' hW' => hL W' ((hW.mono hn₀).trans hW')) h0

/-- A block that is known whole. -/
def Blk (w : World) (b : Nat) (t : TypeId) (cs : Array Value) : Prop := w.heap[b]? = some (.cells cs t (0, 0))
theorem Blk.lt {w : World} {b : Nat} {t : TypeId} {cs : Array Value} (h : Blk w b t cs) : b < w.heap.size := (Array.getElem?_eq_some_iff.1 h).1
theorem Blk.cell {w : World} {b : Nat} {t : TypeId} {cs : Array Value} (h : Blk w b t cs) (i : Nat) : w.cell? ⟨b, i, none⟩ = cs[i]? := cell_of_row w b i cs t (0, 0) h
theorem Blk.frozen {w : World} {b : Nat} {t : TypeId} {cs : Array Value} (h : Blk w b t cs) (i : Nat) : w.frozen? ⟨b, i, none⟩ = false := by
  unfold Blk at h
  simp [World.frozen?, h]
theorem Blk.kept {w w' : World} {row : Option Nat} {b : Nat} {t : TypeId} {cs : Array Value} (h : Blk w b t cs) (hg : w.grownBy w' row) (hne : some b ≠ row) : Blk w' b t cs := (hg.block b h.lt hne).trans h
theorem Blk.own (b : Nat) (t : TypeId) (cs : Array Value) {β : Type} : Own (fun (_ : β) W => Blk W b t cs) := fun s W W' row h hg hr => h.kept hg (fun e => by
  obtain ⟨o, ho, hc⟩ := hr b e.symm
  rw [show W.heap[b]? = _ from h] at ho; cases ho; cases hc)
theorem Blk.set {w : World} {b : Nat} {t : TypeId} {cs : Array Value} (h : Blk w b t cs) (i : Nat) (v : Value) : Blk (w.setCell ⟨b, i, none⟩ v) b t (cs.setIfInBounds i v) := by
  unfold Blk at h ⊢
  simp [World.setCell, Array.getElem?_modify, h]
theorem Blk.far {w : World} {b : Nat} {t : TypeId} {cs : Array Value} (h : Blk w b t cs) {p : Addr} (hp : b ≠ p.block) (v : Value) : Blk (w.setCell p v) b t cs := (Below.heap_setCell w p v b hp).trans h

theorem Blk.new' {w : World} {b : Nat} {t : TypeId} {cs : Array Value} (h : w.heap.size = b) : Blk (w.alloc (.cells cs t)) b t cs := by subst h; exact World.alloc_heap_new w _
theorem Blk.alloc {w : World} {b : Nat} {t : TypeId} {cs : Array Value} (h : Blk w b t cs) (o : Obj) : Blk (w.alloc o) b t cs := h.kept (World.grownBy_alloc w o none) (by simp)

/-- What a receiver sees: of which kind, when it began, how many bits, which. -/
structure Sn where
  kind : Int
  at_ : Int
  n : Int
  b : List Int
def snv (x : Sn) (a : Option Addr) (c : Nat) : Value := .agg #[.int .i64 x.kind, .int .i64 x.at_, .int .i64 x.n, .slice a x.b.length c]
def judgeOf (l : List Sg) (slot win : Sp) : List Nat → Sn
  | [] => ⟨0, 0, 0, []⟩
  | [i] => match l[i]? with
    | some s => if clr s slot win then ⟨2, s.sp.1, s.n, s.b⟩ else ⟨1, 0, 0, []⟩
    | none => ⟨1, 0, 0, []⟩
  | _ => ⟨1, 0, 0, []⟩
def judge (l : List Sg) (slot win : Sp) (th : Int) : Sn := judgeOf l slot win (hitsTo l slot th l.length)
def JudgePost (x : Sn) (w : World) (e : Ending) (w' : World) : Prop :=
  ∃ a c, e = .returned (snv x a c) ∧ Byts w' (.slice a x.b.length c) x.b ∧ Below w.heap.size w w'

theorem Blk.set4 {w : World} {b : Nat} {t : TypeId} {a0 a1 a2 a3 : Value} (h : Blk w b t #[a0, a1, a2, a3]) (v0 v1 v2 v3 : Value) :
    Blk ((((w.setCell ⟨b, 0, none⟩ v0).setCell ⟨b, 1, none⟩ v1).setCell ⟨b, 2, none⟩ v2).setCell ⟨b, 3, none⟩ v3) b t #[v0, v1, v2, v3] := by
  simpa using (((h.set 0 v0).set 1 v1).set 2 v2).set 3 v3
theorem set4_heap (w : World) (b g : Nat) (v0 v1 v2 v3 : Value) (h : g ≠ b) : ((((w.setCell ⟨b, 0, none⟩ v0).setCell ⟨b, 1, none⟩ v1).setCell ⟨b, 2, none⟩ v2).setCell ⟨b, 3, none⟩ v3).heap[g]? = w.heap[g]? := by
  rw [Below.heap_setCell _ _ _ _ h, Below.heap_setCell _ _ _ _ h, Below.heap_setCell _ _ _ _ h, Below.heap_setCell _ _ _ _ h]
theorem setFour {w : World} {b b' o' : Nat} {v0 v1 v2 v3 : Value} (h : b' ≠ b) : ((((w.setCell ⟨b, 0, none⟩ v0).setCell ⟨b, 1, none⟩ v1).setCell ⟨b, 2, none⟩ v2).setCell ⟨b, 3, none⟩ v3).cell? ⟨b', o', none⟩ = w.cell? ⟨b', o', none⟩ :=
  World.cell?_of_block (set4_heap w b b' v0 v1 v2 v3 h)
theorem set4_below {B : Nat} {a w : World} (b : Nat) (hb : B ≤ b) (h : Below B a w) (v0 v1 v2 v3 : Value) : Below B a ((((w.setCell ⟨b, 0, none⟩ v0).setCell ⟨b, 1, none⟩ v1).setCell ⟨b, 2, none⟩ v2).setCell ⟨b, 3, none⟩ v3) :=
  (((h.setCell (p := ⟨b, 0, none⟩) hb _).setCell (p := ⟨b, 1, none⟩) hb _).setCell (p := ⟨b, 2, none⟩) hb _).setCell (p := ⟨b, 3, none⟩) hb _
/-- Bytes are as they were, where but one block turned, in which none of them lay. -/
theorem Byts.far {W W' : World} {v : Value} {l : List Int} (h : Byts W v l) {g : Nat} (hg : ∀ o x, W.cell? ⟨g, o, none⟩ ≠ some (.int .u8 x)) (hW : ∀ b, b ≠ g → W'.heap[b]? = W.heap[b]?) (hsz : W.heap.size ≤ W'.heap.size) : Byts W' v l := by
  obtain ⟨⟨a, cap, rfl, h1, h2, h3, h5, h4⟩, hb⟩ := h
  refine ⟨⟨a, cap, rfl, h1, h2, h3, h5, ?_⟩, hb⟩
  by_cases hl : l = []
  · exact .inl hl
  · obtain ⟨b, off, rfl, hlt, hc⟩ := h4.resolve_left hl
    have h0 := hc.int (j := 0) (List.length_pos_iff.2 hl)
    have hne : b ≠ g := by rintro rfl; exact hg _ _ h0
    refine .inr ⟨b, off, rfl, Nat.lt_of_lt_of_le hlt hsz, fun j x hj i u hu => ?_⟩
    rw [World.cell?_of_block (hW b hne)]
    exact hc j x hj i u hu
theorem Byts.nil (w : World) : Byts w (.slice none 0 0) [] := ⟨Rd.nil w, by simp⟩
theorem no_cell {W : World} {D : Nat} {o : Obj} (h : W.heap[D]? = some o) (ho : o.isCells = false) (i : Nat) (x : Int) : W.cell? ⟨D, i, none⟩ ≠ some (.int .u8 x) := by
  unfold World.cell?
  rw [h]
  cases o <;> simp_all [Obj.isCells]

theorem judge_end {w W : World} {D : Nat} {x : Sn} {a : Option Addr} {c : Nat} {a0 : Act} (hD : w.heap.size ≤ D) (hK : W.heap[D]? = some (.deferred (some []))) (hB : Below w.heap.size w W)
    (hr : Blk W (w.heap.size + 1 + 1) 39 #[.int .i64 x.kind, .int .i64 x.at_, .int .i64 x.n, .slice a x.b.length c]) (hby : Byts W (.slice a x.b.length c) x.b)
    (ht : a0.tmps[8]? = some (.pointer (some ⟨w.heap.size + 1 + 1, 0, none⟩))) (hd : a0.defers = [{ target := .collected D, args := #[] }]) :
    bodyPostM Fence.wide 3 Try.prog Try.f18 (JudgePost x w) Exit.ret a0 W := by
  obtain ⟨tmps, df⟩ := a0
  simp only at ht hd
  subst hd
  refine ⟨by simp, .inl ⟨_, _, rfl, run_takeDeferred hK, ?_⟩⟩
  have hr2 : Blk (W.putObj D (.deferred none)) (w.heap.size + 1 + 1) 39 #[.int .i64 x.kind, .int .i64 x.at_, .int .i64 x.n, .slice a x.b.length c] := hr.kept (grownBy_putObj' _ D _) (fun e => by
    cases e
    rw [show W.heap[w.heap.size + 1 + 1]? = _ from hr] at hK
    cases hK)
  have e0 : (W.putObj D (.deferred none)).cell? ⟨w.heap.size + 1 + 1, 0, none⟩ = some (.int .i64 x.kind) := hr2.cell 0
  have e1 : (W.putObj D (.deferred none)).cell? ⟨w.heap.size + 1 + 1, 1, none⟩ = some (.int .i64 x.at_) := hr2.cell 1
  have e2 : (W.putObj D (.deferred none)).cell? ⟨w.heap.size + 1 + 1, 2, none⟩ = some (.int .i64 x.n) := hr2.cell 2
  have e3 : (W.putObj D (.deferred none)).cell? ⟨w.heap.size + 1 + 1, 3, none⟩ = some (.slice a x.b.length c) := hr2.cell 3
  refine ⟨snv x a c, ?_, a, c, rfl, hby.far (no_cell hK rfl) (fun b hb => World.putObj_heap_other hb) (by simp [World.putObj]), hB.trans (belowK_b (w := w) (Nat.le_refl _) W D _ _ hD hK rfl rfl)⟩
  unfold snv
  simp [results, Try.f18, go_sem, e0, e1, e2, e3, ht]

set_option maxRecDepth 100000 in
set_option maxHeartbeats 3200000 in
theorem judge_any (l : List Sg) (v : Value) (slot win : Sp) (th : Int) (w : World) (h : Sgs w v l) :
    Calls Try.prog 18 #[v, spv slot, spv win, .int .i64 th] w (JudgePost (judge l slot win th) w) := by
  obtain ⟨sf, st⟩ := slot
  obtain ⟨wf, wt⟩ := win
  have HSg : Hid (∀ W', Below w.heap.size w W' → Sgs W' v l) := fun W' hW' => h.below hW'
  obtain ⟨a, c, rfl, q1, q2, q3⟩ := h.1.shape
  clear h
  unfold spv
  simp only
  refine (callsIn_wide (n := 3)).1 ?_
  refine callsIn_of_wp_marks Try.func18 rfl trivial ?_ rfl
  refine wpIn_wide.2 ?_
  simp only [Try.ntmps18, List.size_toArray, List.length_cons, List.length_nil, Nat.reduceAdd, Nat.reduceSub, Array.replicate_succ, Array.replicate_zero, List.push_toArray, List.append_toArray, List.nil_append, List.cons_append]
  go_wp2_with (go_at_call 28; refine (heard_any _ _ _ _ _ _ _).mono ?_; rintro e w' ⟨rfl, rfl⟩)
  have hB : ∀ W0, ((((((((w.alloc (Obj.cells #[Value.int IntKind.i64 sf, Value.int IntKind.i64 st] 23)).alloc (Obj.cells #[Value.int IntKind.i64 wf, Value.int IntKind.i64 wt] 23)).alloc (Obj.cells #[Value.int IntKind.i64 0, Value.int IntKind.i64 0, Value.int IntKind.i64 0, Value.slice none 0 0] 39)).alloc (Obj.cells #[Value.int IntKind.i64 0] 3)).alloc (Obj.cells #[Value.int IntKind.i64 0] 3)).alloc (Obj.cells #[Value.slice a l.length c] 37)).alloc (Obj.cells #[Value.int IntKind.i64 sf, Value.int IntKind.i64 st] 23)).alloc (Obj.cells #[Value.int IntKind.i64 th] 3)) = W0 →
      (Below w.heap.size w W0 ∧ W0.heap.size = w.heap.size + 1 + 1 + 1 + 1 + 1 + 1 + 1 + 1) ∧
      (W0.cell? ⟨w.heap.size + 1 + 1 + 1 + 1 + 1, 0, none⟩ = some (.slice a l.length c) ∧ W0.cell? ⟨w.heap.size + 1 + 1 + 1 + 1 + 1 + 1 + 1, 0, none⟩ = some (.int .i64 th) ∧
      W0.cell? ⟨w.heap.size + 1 + 1 + 1 + 1 + 1 + 1, 0, none⟩ = some (.int .i64 sf) ∧ W0.cell? ⟨w.heap.size + 1 + 1 + 1 + 1 + 1 + 1, 1, none⟩ = some (.int .i64 st)) ∧
      Blk W0 w.heap.size 23 #[.int .i64 sf, .int .i64 st] ∧ Blk W0 (w.heap.size + 1) 23 #[.int .i64 wf, .int .i64 wt] ∧ Blk W0 (w.heap.size + 1 + 1) 39 #[.int .i64 0, .int .i64 0, .int .i64 0, .slice none 0 0] ∧
      Blk W0 (w.heap.size + 1 + 1 + 1) 3 #[.int .i64 0] ∧ Blk W0 (w.heap.size + 1 + 1 + 1 + 1) 3 #[.int .i64 0] := by
    rintro _ rfl
    refine ⟨⟨?_, by simp⟩, ⟨by go_simp, by go_simp, by go_simp, by go_simp⟩, ?_, ?_, ?_, ?_, ?_⟩
    · exact (((((((below1 w _).alloc (by simp) _).alloc (by simp; omega) _).alloc (by simp; omega) _).alloc (by simp; omega) _).alloc (by simp; omega) _).alloc (by simp; omega) _).alloc (by simp; omega) _
    all_goals (repeat (first | (refine Blk.new' ?_; simp; done) | refine Blk.alloc ?_ _))
  generalize hW0 : ((((((((w.alloc (Obj.cells #[Value.int IntKind.i64 sf, Value.int IntKind.i64 st] 23)).alloc (Obj.cells #[Value.int IntKind.i64 wf, Value.int IntKind.i64 wt] 23)).alloc (Obj.cells #[Value.int IntKind.i64 0, Value.int IntKind.i64 0, Value.int IntKind.i64 0, Value.slice none 0 0] 39)).alloc (Obj.cells #[Value.int IntKind.i64 0] 3)).alloc (Obj.cells #[Value.int IntKind.i64 0] 3)).alloc (Obj.cells #[Value.slice a l.length c] 37)).alloc (Obj.cells #[Value.int IntKind.i64 sf, Value.int IntKind.i64 st] 23)).alloc (Obj.cells #[Value.int IntKind.i64 th] 3)) = W0
  obtain ⟨⟨hB0, hsz⟩, ⟨k1, k2, k3, k4⟩, B0, B1, B2, B3, B4⟩ := hB W0 hW0
  clear hB hW0
  refine (wpIn_wide (n := 3)).1 ?_
  refine wpIn_rangeFunc_ownF rfl (by omega) (gf := 44) (lb := #[.pointer (some ⟨w.heap.size + 1 + 1 + 1 + 1 + 1, 0, none⟩), .pointer (some ⟨w.heap.size + 1 + 1 + 1 + 1 + 1 + 1 + 1, 0, none⟩), .pointer (some ⟨w.heap.size + 1 + 1 + 1 + 1 + 1 + 1, 0, none⟩)]) rfl trivial (enters_of Try.func44 (by kernel_rfl) rfl)
    (heard_stops (3 - 1) (by omega) _ _ _ w.heap.size (w.heap.size + 5) (w.heap.size + 8) _ l (sf, st) th W0 (by omega) k1 k2 ⟨k3, k4⟩ (by omega) (by omega) (fun W' hW' => HSg.out W' (hB0.trans hW'))) (fun h k => KP.trans h k) (KP.put (by omega) (by omega)) (Below.refl _ _) (fun _ => rfl)
    (fun pre W => (Blk W w.heap.size 23 #[.int .i64 sf, .int .i64 st] ∧ Blk W (w.heap.size + 1) 23 #[.int .i64 wf, .int .i64 wt] ∧ Blk W (w.heap.size + 1 + 1) 39 #[.int .i64 0, .int .i64 0, .int .i64 0, .slice none 0 0] ∧ Blk W (w.heap.size + 1 + 1 + 1) 3 #[.int .i64 (pre.length : Int)] ∧ Blk W (w.heap.size + 1 + 1 + 1 + 1) 3 #[.int .i64 ((pre.headD 0 : Nat) : Int)]) ∧ Below w.heap.size w W)
    (fun _ _ _ => False)
    (OwnFrom.and (Own.from (fun s A B row hs hg hr => ⟨Blk.own _ _ _ s A B row hs.1 hg hr, Blk.own _ _ _ s A B row hs.2.1 hg hr, Blk.own _ _ _ s A B row hs.2.2.1 hg hr, Blk.own _ _ _ s A B row hs.2.2.2.1 hg hr, Blk.own _ _ _ s A B row hs.2.2.2.2 hg hr⟩) _) (ownFrom_below (Nat.le_refl _) (by omega)))
    (fun _ _ _ _ _ hs _ _ => hs)
    ⟨⟨B0, B1, B2, B3, B4⟩, hB0⟩
    ?a1 ?assign ?body ?done ?stop
  case assign =>
    intro l x W K hK
    unfold encN
    gi_wp2
    exact hK
  case body =>
    rintro y pre x W ⟨⟨D0, D1, D2, D3, D4⟩, hB⟩ hlt
    have f3 := D3.frozen 0
    have f4 := D4.frozen 0
    have c3 : W.cell? ⟨w.heap.size + 1 + 1 + 1, 0, none⟩ = some (.int .i64 (pre.length : Int)) := D3.cell 0
    have c4 : W.cell? ⟨w.heap.size + 1 + 1 + 1 + 1, 0, none⟩ = some (.int .i64 ((pre.headD 0 : Nat) : Int)) := D4.cell 0
    have HD0 := Lib.hid D0
    have HD1 := Lib.hid D1
    have HD2 := Lib.hid D2
    have HD3 := Lib.hid D3
    have HD4 := Lib.hid D4
    clear D0 D1 D2 D3 D4
    cases pre with
    | nil =>
      simp only [List.length_nil, List.headD_nil] at c3 c4
      gi_wp2
      refine ⟨(KeepsOthers.setCell _ _ _).trans (KeepsOthers.setCell _ _ _), (KP.setCell (by simp <;> omega) (by simp <;> omega) _).trans (KP.setCell (by simp <;> omega) (by simp <;> omega) _), ⟨(HD0.out.far (by simp <;> omega) _).far (by simp <;> omega) _, (HD1.out.far (by simp <;> omega) _).far (by simp <;> omega) _, (HD2.out.far (by simp <;> omega) _).far (by simp <;> omega) _, (HD3.out.set 0 _).far (by simp <;> omega) _, ?_⟩, (hB.setCell (by simp <;> omega) _).setCell (by simp <;> omega) _⟩
      have := (HD4.out.far (p := ⟨w.heap.size + 1 + 1 + 1, 0, none⟩) (by simp <;> omega) (.int .i64 1)).set 0 (.int .i64 (x : Int))
      simpa using this
    | cons i pre' =>
      have hm : (1 : Int) ≤ ((i :: pre').length : Int) := by simp; omega
      have hm2 : ((i :: pre').length : Int) ≤ 140737488351232 := by omega
      have hl2 : (((i :: pre') ++ [x]).length : Int) = ((i :: pre').length : Int) + 1 := by simp
      have HL2 := Lib.hid hl2
      clear hl2
      generalize hgl : ((i :: pre').length : Int) = m at *
      have hne : (m + 1 == 1) = false := by simp; omega
      clear hgl
      gi_wp2
      refine ⟨KeepsOthers.setCell _ _ _, KP.setCell (by simp <;> omega) (by simp <;> omega) _, ⟨HD0.out.far (by simp <;> omega) _, HD1.out.far (by simp <;> omega) _, HD2.out.far (by simp <;> omega) _, ?_, HD4.out.far (by simp <;> omega) _⟩, hB.setCell (by simp <;> omega) _⟩
      have := HD3.out.set 0 (.int .i64 (m + 1))
      rw [HL2.out]
      simpa using this
  case done =>
    rintro D ys W hD hys ⟨⟨D0, D1, D2, D3, D4⟩, hB⟩ hK
    have c3 : W.cell? ⟨w.heap.size + 1 + 1 + 1, 0, none⟩ = some (.int .i64 (ys.length : Int)) := D3.cell 0
    have c4 : W.cell? ⟨w.heap.size + 1 + 1 + 1 + 1, 0, none⟩ = some (.int .i64 ((ys.headD 0 : Nat) : Int)) := D4.cell 0
    have r0 : W.cell? ⟨w.heap.size + 1 + 1, 0, none⟩ = some (.int .i64 0) := D2.cell 0
    have r1 : W.cell? ⟨w.heap.size + 1 + 1, 1, none⟩ = some (.int .i64 0) := D2.cell 1
    have r2 : W.cell? ⟨w.heap.size + 1 + 1, 2, none⟩ = some (.int .i64 0) := D2.cell 2
    have r3 : W.cell? ⟨w.heap.size + 1 + 1, 3, none⟩ = some (.slice none 0 0) := D2.cell 3
    have g0 := D2.frozen 0
    have g1 := D2.frozen 1
    have g2 := D2.frozen 2
    have g3 := D2.frozen 3
    have HJ : Hid (judge l (sf, st) (wf, wt) th = judgeOf l (sf, st) (wf, wt) ys) := by show _ = _; rw [hys]; rfl
    have HYM : Hid (∀ i ∈ ys, ∃ s, l[i]? = some s) := fun i hi => by
      rw [hys] at hi
      have := List.mem_range.1 (List.mem_filter.1 hi).1
      exact ⟨_, List.getElem?_eq_getElem this⟩
    clear hys
    generalize judge _ _ _ _ = X at *
    cases ys with
    | nil =>
      obtain rfl : X = ⟨0, 0, 0, []⟩ := HJ.out
      simp only [List.length_nil, List.headD_nil] at c3 c4
      clear HJ HYM D0 D1 D3 D4 c4
      go_wp2
      exact judge_end (by omega) ((set4_heap W _ D _ _ _ _ (by omega)).trans hK) (set4_below _ (by omega) hB _ _ _ _) (D2.set4 _ _ _ _) (Byts.nil _) rfl rfl
    | cons i ys =>
      obtain ⟨s, hs0⟩ := HYM.out i (by simp)
      cases ys with
      | nil =>
        have HX : Hid (X = if clr s (sf, st) (wf, wt) then ⟨2, s.sp.1, s.n, s.b⟩ else ⟨1, 0, 0, []⟩) := by show _ = _; rw [HJ.out]; simp [judgeOf, hs0]
        have hSg := HSg.out W hB
        have hil := (List.getElem?_eq_some_iff.1 hs0).1
        obtain ⟨b, off, rfl, hbl, hcc⟩ := hSg.1.row (by rintro rfl; simp at hil)
        obtain ⟨e0, e1, e2, e3, e4, e5⟩ := sg_cells hcc hs0
        have hcl : ∀ W', Below w.heap.size w W' → _ := fun W' hW' => clear_any s (sf, st) (wf, wt) W' ((HSg.out W' hW').2 s (List.mem_of_getElem? hs0))
        have hgood : Hid (∀ W', Below w.heap.size w W' → GoodSg W' s) := fun W' hW' => (HSg.out W' hW').2 s (List.mem_of_getElem? hs0)
        simp only [List.length_cons, List.length_nil, List.headD_cons] at c3 c4
        have d0 : W.cell? ⟨w.heap.size, 0, none⟩ = some (.int .i64 sf) := D0.cell 0
        have d1 : W.cell? ⟨w.heap.size, 1, none⟩ = some (.int .i64 st) := D0.cell 1
        have d2 : W.cell? ⟨w.heap.size + 1, 0, none⟩ = some (.int .i64 wf) := D1.cell 0
        have d3 : W.cell? ⟨w.heap.size + 1, 1, none⟩ = some (.int .i64 wt) := D1.cell 1
        have hii : (i : Int) < (l.length : Int) := by omega
        obtain ⟨fr, ⟨f, t⟩, lv, nn, ba, bc, BB⟩ := s
        unfold sgv spv at hcl
        simp only at e0 e1 e2 e3 e4 e5 hcl HX
        have HLB : Hid (BB.length = BB.length) := rfl
        generalize hLe : BB.length = L at *
        have HLe := Lib.hid hLe
        clear hLe HLB
        generalize hce : clr _ _ _ = pc at *
        clear hce HJ HYM hs0 hSg hcc
        have H1 : W.drew.cell? ⟨w.heap.size + 1 + 1 + 1, 0, none⟩ = some (.int .i64 1) ∧ W.drew.cell? ⟨w.heap.size + 1 + 1 + 1 + 1, 0, none⟩ = some (.int .i64 (i : Int)) ∧ W.drew.cell? ⟨b, off + i * 6, none⟩ = some (.int .i64 fr) ∧ W.drew.cell? ⟨b, off + i * 6 + 1, none⟩ = some (.int .i64 f) ∧ W.drew.cell? ⟨b, off + i * 6 + 2, none⟩ = some (.int .i64 t) ∧ W.drew.cell? ⟨b, off + i * 6 + 3, none⟩ = some (.int .i64 lv) ∧ W.drew.cell? ⟨b, off + i * 6 + 4, none⟩ = some (.int .i64 nn) ∧ W.drew.cell? ⟨b, off + i * 6 + 5, none⟩ = some (.slice ba L bc) ∧ W.drew.cell? ⟨w.heap.size, 0, none⟩ = some (.int .i64 sf) ∧ W.drew.cell? ⟨w.heap.size, 1, none⟩ = some (.int .i64 st) ∧ W.drew.cell? ⟨w.heap.size + 1, 0, none⟩ = some (.int .i64 wf) ∧ W.drew.cell? ⟨w.heap.size + 1, 1, none⟩ = some (.int .i64 wt) ∧ Blk W.drew (w.heap.size + 1 + 1) 39 #[.int .i64 0, .int .i64 0, .int .i64 0, .slice none 0 0] ∧ W.drew.heap[D]? = some (.deferred (some [])) ∧ Below w.heap.size w W.drew := ⟨c3, c4, e0, e1, e2, e3, e4, e5, d0, d1, d2, d3, D2, hK, hB.drew⟩
        have KK : ∀ W', (W'.cell? ⟨w.heap.size + 1 + 1 + 1, 0, none⟩ = some (.int .i64 1) ∧ W'.cell? ⟨w.heap.size + 1 + 1 + 1 + 1, 0, none⟩ = some (.int .i64 (i : Int)) ∧ W'.cell? ⟨b, off + i * 6, none⟩ = some (.int .i64 fr) ∧ W'.cell? ⟨b, off + i * 6 + 1, none⟩ = some (.int .i64 f) ∧ W'.cell? ⟨b, off + i * 6 + 2, none⟩ = some (.int .i64 t) ∧ W'.cell? ⟨b, off + i * 6 + 3, none⟩ = some (.int .i64 lv) ∧ W'.cell? ⟨b, off + i * 6 + 4, none⟩ = some (.int .i64 nn) ∧ W'.cell? ⟨b, off + i * 6 + 5, none⟩ = some (.slice ba L bc) ∧ W'.cell? ⟨w.heap.size, 0, none⟩ = some (.int .i64 sf) ∧ W'.cell? ⟨w.heap.size, 1, none⟩ = some (.int .i64 st) ∧ W'.cell? ⟨w.heap.size + 1, 0, none⟩ = some (.int .i64 wf) ∧ W'.cell? ⟨w.heap.size + 1, 1, none⟩ = some (.int .i64 wt) ∧ Blk W' (w.heap.size + 1 + 1) 39 #[.int .i64 0, .int .i64 0, .int .i64 0, .slice none 0 0] ∧ W'.heap[D]? = some (.deferred (some [])) ∧ Below w.heap.size w W') → Calls Try.prog 42 #[.agg #[.int .i64 fr, .int .i64 f, .int .i64 t, .int .i64 lv, .int .i64 nn, .slice ba L bc], .agg #[.int .i64 sf, .int .i64 st], .agg #[.int .i64 wf, .int .i64 wt]] W' fun e W => e = .returned (.bool pc) ∧ W.cell? ⟨w.heap.size + 1 + 1 + 1, 0, none⟩ = some (.int .i64 1) ∧ W.cell? ⟨w.heap.size + 1 + 1 + 1 + 1, 0, none⟩ = some (.int .i64 (i : Int)) ∧ W.cell? ⟨b, off + i * 6, none⟩ = some (.int .i64 fr) ∧ W.cell? ⟨b, off + i * 6 + 1, none⟩ = some (.int .i64 f) ∧ W.cell? ⟨b, off + i * 6 + 2, none⟩ = some (.int .i64 t) ∧ W.cell? ⟨b, off + i * 6 + 3, none⟩ = some (.int .i64 lv) ∧ W.cell? ⟨b, off + i * 6 + 4, none⟩ = some (.int .i64 nn) ∧ W.cell? ⟨b, off + i * 6 + 5, none⟩ = some (.slice ba L bc) ∧ W.cell? ⟨w.heap.size, 0, none⟩ = some (.int .i64 sf) ∧ W.cell? ⟨w.heap.size, 1, none⟩ = some (.int .i64 st) ∧ W.cell? ⟨w.heap.size + 1, 0, none⟩ = some (.int .i64 wf) ∧ W.cell? ⟨w.heap.size + 1, 1, none⟩ = some (.int .i64 wt) ∧ Blk W (w.heap.size + 1 + 1) 39 #[.int .i64 0, .int .i64 0, .int .i64 0, .slice none 0 0] ∧ W.heap[D]? = some (.deferred (some [])) ∧ Below w.heap.size w W := fun W' hs => (hcl W' hs.2.2.2.2.2.2.2.2.2.2.2.2.2.2).mono fun e w' ⟨he, hb⟩ => ⟨he, keepCell hb hs.1, keepCell hb hs.2.1, keepCell hb hs.2.2.1, keepCell hb hs.2.2.2.1, keepCell hb hs.2.2.2.2.1, keepCell hb hs.2.2.2.2.2.1, keepCell hb hs.2.2.2.2.2.2.1, keepCell hb hs.2.2.2.2.2.2.2.1, keepCell hb hs.2.2.2.2.2.2.2.2.1, keepCell hb hs.2.2.2.2.2.2.2.2.2.1, keepCell hb hs.2.2.2.2.2.2.2.2.2.2.1, keepCell hb hs.2.2.2.2.2.2.2.2.2.2.2.1, (hb.block _ (Blk.lt hs.2.2.2.2.2.2.2.2.2.2.2.2.1)).trans hs.2.2.2.2.2.2.2.2.2.2.2.2.1, (hb.block _ (Array.getElem?_eq_some_iff.1 hs.2.2.2.2.2.2.2.2.2.2.2.2.2.1).1).trans hs.2.2.2.2.2.2.2.2.2.2.2.2.2.1, hs.2.2.2.2.2.2.2.2.2.2.2.2.2.2.trans (hb.mono hs.2.2.2.2.2.2.2.2.2.2.2.2.2.2.size)⟩
        clear hcl D0 D1 D3 D4 c4 e0 e1 e2 e3 e4 e5 d0 d1 d2 d3 r0 r1 r2 r3 g0 g1 g2 g3 D2 hK hB
        go_wp2_with fail
        clear c3
        refine wp_region_noPanic ?_
        refine wp_region_held_drew (S := (fun W => W.cell? ⟨w.heap.size + 1 + 1 + 1, 0, none⟩ = some (.int .i64 1) ∧ W.cell? ⟨w.heap.size + 1 + 1 + 1 + 1, 0, none⟩ = some (.int .i64 (i : Int)) ∧ W.cell? ⟨b, off + i * 6, none⟩ = some (.int .i64 fr) ∧ W.cell? ⟨b, off + i * 6 + 1, none⟩ = some (.int .i64 f) ∧ W.cell? ⟨b, off + i * 6 + 2, none⟩ = some (.int .i64 t) ∧ W.cell? ⟨b, off + i * 6 + 3, none⟩ = some (.int .i64 lv) ∧ W.cell? ⟨b, off + i * 6 + 4, none⟩ = some (.int .i64 nn) ∧ W.cell? ⟨b, off + i * 6 + 5, none⟩ = some (.slice ba L bc) ∧ W.cell? ⟨w.heap.size, 0, none⟩ = some (.int .i64 sf) ∧ W.cell? ⟨w.heap.size, 1, none⟩ = some (.int .i64 st) ∧ W.cell? ⟨w.heap.size + 1, 0, none⟩ = some (.int .i64 wf) ∧ W.cell? ⟨w.heap.size + 1, 1, none⟩ = some (.int .i64 wt) ∧ Blk W (w.heap.size + 1 + 1) 39 #[.int .i64 0, .int .i64 0, .int .i64 0, .slice none 0 0] ∧ W.heap[D]? = some (.deferred (some [])) ∧ Below w.heap.size w W)) (by kernel_rfl) (by assumption) (fun hHeld => ?_)
        (refine takeW (i := 0) (v := ?_) rfl (by kernel_rfl) (by kernel_rfl) (by kernel_rfl) (fun _ _ _ h => h) (by rfl) (by assumption) ?_ ?_; rotate_left; (intro W hW; (try dsimp only at hW); go_simp; try with_reducible rfl); (try simp only [Act.put, List.setIfInBounds_toArray, List.set_cons_zero, List.set_cons_succ]))
        (refine takeW (i := 1) (v := ?_) rfl (by kernel_rfl) (by kernel_rfl) (by kernel_rfl) (fun _ _ _ h => h) (by rfl) (by assumption) ?_ ?_; rotate_left; (intro W hW; (try dsimp only at hW); go_simp; try with_reducible rfl); (try simp only [Act.put, List.setIfInBounds_toArray, List.set_cons_zero, List.set_cons_succ]))
        (refine takeW (i := 2) (v := ?_) rfl (by kernel_rfl) (by kernel_rfl) (by kernel_rfl) (fun _ _ _ h => h) (by rfl) (by assumption) ?_ ?_; rotate_left; (intro W hW; (try dsimp only at hW); go_simp; try with_reducible rfl); (try simp only [Act.put, List.setIfInBounds_toArray, List.set_cons_zero, List.set_cons_succ]))
        first
          | (refine takeW (i := 3) (v := ?_) rfl (by kernel_rfl) (by kernel_rfl) (by kernel_rfl) (fun _ _ _ h => h) (by rfl) (by assumption) ?_ ?_; rotate_left; (intro W hW; (try dsimp only at hW); go_simp; try with_reducible rfl); (try simp only [Act.put, List.setIfInBounds_toArray, List.set_cons_zero, List.set_cons_succ]))
          | (refine takeU (i := 3) rfl (by kernel_rfl) (by kernel_rfl) (by kernel_rfl) (fun _ _ _ h => h) (by rfl) (by assumption) ?_; (try simp only [Act.put, List.setIfInBounds_toArray, List.set_cons_zero, List.set_cons_succ]))
        first
          | (refine takeW (i := 4) (v := ?_) rfl (by kernel_rfl) (by kernel_rfl) (by kernel_rfl) (fun _ _ _ h => h) (by rfl) (by assumption) ?_ ?_; rotate_left; (intro W hW; (try dsimp only at hW); go_simp; try with_reducible rfl); (try simp only [Act.put, List.setIfInBounds_toArray, List.set_cons_zero, List.set_cons_succ]))
          | (refine takeU (i := 4) rfl (by kernel_rfl) (by kernel_rfl) (by kernel_rfl) (fun _ _ _ h => h) (by rfl) (by assumption) ?_; (try simp only [Act.put, List.setIfInBounds_toArray, List.set_cons_zero, List.set_cons_succ]))
        first
          | (refine takeW (i := 5) (v := ?_) rfl (by kernel_rfl) (by kernel_rfl) (by kernel_rfl) (fun _ _ _ h => h) (by rfl) (by assumption) ?_ ?_; rotate_left; (intro W hW; (try dsimp only at hW); go_simp; try with_reducible rfl); (try simp only [Act.put, List.setIfInBounds_toArray, List.set_cons_zero, List.set_cons_succ]))
          | (refine takeU (i := 5) rfl (by kernel_rfl) (by kernel_rfl) (by kernel_rfl) (fun _ _ _ h => h) (by rfl) (by assumption) ?_; (try simp only [Act.put, List.setIfInBounds_toArray, List.set_cons_zero, List.set_cons_succ]))
        first
          | (refine takeW (i := 6) (v := ?_) rfl (by kernel_rfl) (by kernel_rfl) (by kernel_rfl) (fun _ _ _ h => h) (by rfl) (by assumption) ?_ ?_; rotate_left; (intro W hW; (try dsimp only at hW); go_simp; try with_reducible rfl); (try simp only [Act.put, List.setIfInBounds_toArray, List.set_cons_zero, List.set_cons_succ]))
          | (refine takeU (i := 6) rfl (by kernel_rfl) (by kernel_rfl) (by kernel_rfl) (fun _ _ _ h => h) (by rfl) (by assumption) ?_; (try simp only [Act.put, List.setIfInBounds_toArray, List.set_cons_zero, List.set_cons_succ]))
        first
          | (refine takeW (i := 7) (v := ?_) rfl (by kernel_rfl) (by kernel_rfl) (by kernel_rfl) (fun _ _ _ h => h) (by rfl) (by assumption) ?_ ?_; rotate_left; (intro W hW; (try dsimp only at hW); go_simp; try with_reducible rfl); (try simp only [Act.put, List.setIfInBounds_toArray, List.set_cons_zero, List.set_cons_succ]))
          | (refine takeU (i := 7) rfl (by kernel_rfl) (by kernel_rfl) (by kernel_rfl) (fun _ _ _ h => h) (by rfl) (by assumption) ?_; (try simp only [Act.put, List.setIfInBounds_toArray, List.set_cons_zero, List.set_cons_succ]))
        first
          | (refine takeW (i := 8) (v := ?_) rfl (by kernel_rfl) (by kernel_rfl) (by kernel_rfl) (fun _ _ _ h => h) (by rfl) (by assumption) ?_ ?_; rotate_left; (intro W hW; (try dsimp only at hW); go_simp; try with_reducible rfl); (try simp only [Act.put, List.setIfInBounds_toArray, List.set_cons_zero, List.set_cons_succ]))
          | (refine takeU (i := 8) rfl (by kernel_rfl) (by kernel_rfl) (by kernel_rfl) (fun _ _ _ h => h) (by rfl) (by assumption) ?_; (try simp only [Act.put, List.setIfInBounds_toArray, List.set_cons_zero, List.set_cons_succ]))
        first
          | (refine takeC (i := 9) rfl (by kernel_rfl) (by rfl) (fun K hK => ?_); go_simp; (first | (go_at_call 42; with_reducible refine (KK _ (by assumption)).mono ?_; rintro e w' ⟨rfl, hs⟩)); refine hK.out _ _ hs (fun hHeld => ?_); clear hK K; (try simp only [Act.put, List.setIfInBounds_toArray, List.set_cons_zero, List.set_cons_succ]))
          | (refine takeU (i := 9) rfl (by kernel_rfl) (by kernel_rfl) (by kernel_rfl) (fun _ _ _ h => h) (by rfl) (by assumption) ?_; (try simp only [Act.put, List.setIfInBounds_toArray, List.set_cons_zero, List.set_cons_succ]))
        (refine takeW (i := 10) (v := ?_) rfl (by kernel_rfl) (by kernel_rfl) (by kernel_rfl) (fun _ _ _ h => h) (by rfl) (by assumption) ?_ ?_; rotate_left; (intro W hW; (try dsimp only at hW); go_simp; try with_reducible rfl); (try simp only [Act.put, List.setIfInBounds_toArray, List.set_cons_zero, List.set_cons_succ]))
        (refine takeW (i := 11) (v := ?_) rfl (by kernel_rfl) (by kernel_rfl) (by kernel_rfl) (fun _ _ _ h => h) (by rfl) (by assumption) ?_ ?_; rotate_left; (intro W hW; (try dsimp only at hW); go_simp; try with_reducible rfl); (try simp only [Act.put, List.setIfInBounds_toArray, List.set_cons_zero, List.set_cons_succ]))
        refine wpAnyH_done (by kernel_rfl) ?_ _
        refine NoPanic.normal ?_
        obtain ⟨s3, s4, e0, e1, e2, e3, e4, e5, d0, d1, d2, d3, D2, hK, hB⟩ := hs
        have r0 : w'.cell? ⟨w.heap.size + 1 + 1, 0, none⟩ = some (.int .i64 0) := D2.cell 0
        have r1 : w'.cell? ⟨w.heap.size + 1 + 1, 1, none⟩ = some (.int .i64 0) := D2.cell 1
        have r2 : w'.cell? ⟨w.heap.size + 1 + 1, 2, none⟩ = some (.int .i64 0) := D2.cell 2
        have r3 : w'.cell? ⟨w.heap.size + 1 + 1, 3, none⟩ = some (.slice none 0 0) := D2.cell 3
        have g0 := D2.frozen 0
        have g1 := D2.frozen 1
        have g2 := D2.frozen 2
        have g3 := D2.frozen 3
        cases pc
        · have hX : X = ⟨1, 0, 0, []⟩ := HX.out
          subst hX
          go_wp2
          exact judge_end (by omega) ((set4_heap w' _ D _ _ _ _ (by omega)).trans hK) (set4_below _ (by omega) hB _ _ _ _) (D2.set4 _ _ _ _) (Byts.nil _) rfl rfl
        · have hX : X = ⟨2, f, nn, BB⟩ := HX.out
          have hcl := fun W' (hW' : Below w.heap.size w W') => bclone_any ba bc BB W' (hgood.out W' hW').1
          simp only [HLe.out] at hcl
          have hal : Below w'.heap.size w' (w'.alloc (.cells #[.int .i64 fr, .int .i64 f, .int .i64 t, .int .i64 lv, .int .i64 nn, .slice ba L bc] 28)) := below1 w' _
          have hal2 : Below w.heap.size w (w'.alloc (.cells #[.int .i64 fr, .int .i64 f, .int .i64 t, .int .i64 lv, .int .i64 nn, .slice ba L bc] 28)).drew := (hB.trans (hal.mono hB.size)).drew
          have x1 : (w'.alloc (.cells #[.int .i64 fr, .int .i64 f, .int .i64 t, .int .i64 lv, .int .i64 nn, .slice ba L bc] 28)).drew.cell? ⟨w'.heap.size, 1, none⟩ = some (.int .i64 f) := by show World.cell? (World.alloc _ _) _ = _; rw [World.cell?_alloc_at _ _ _ _ rfl]; rfl
          have x4 : (w'.alloc (.cells #[.int .i64 fr, .int .i64 f, .int .i64 t, .int .i64 lv, .int .i64 nn, .slice ba L bc] 28)).drew.cell? ⟨w'.heap.size, 4, none⟩ = some (.int .i64 nn) := by show World.cell? (World.alloc _ _) _ = _; rw [World.cell?_alloc_at _ _ _ _ rfl]; rfl
          have x5 : (w'.alloc (.cells #[.int .i64 fr, .int .i64 f, .int .i64 t, .int .i64 lv, .int .i64 nn, .slice ba L bc] 28)).drew.cell? ⟨w'.heap.size, 5, none⟩ = some (.slice ba L bc) := by show World.cell? (World.alloc _ _) _ = _; rw [World.cell?_alloc_at _ _ _ _ rfl]; rfl
          have D2a : Blk (w'.alloc (.cells #[.int .i64 fr, .int .i64 f, .int .i64 t, .int .i64 lv, .int .i64 nn, .slice ba L bc] 28)).drew (w.heap.size + 1 + 1) 39 #[.int .i64 0, .int .i64 0, .int .i64 0, .slice none 0 0] := D2.alloc _
          have hKa : (w'.alloc (.cells #[.int .i64 fr, .int .i64 f, .int .i64 t, .int .i64 lv, .int .i64 nn, .slice ba L bc] 28)).drew.heap[D]? = some (.deferred (some [])) := (Below.heap_alloc w' _ D (Array.getElem?_eq_some_iff.1 hK).1).trans hK
          have HX1 := Lib.hid x1
          have HX4 := Lib.hid x4
          have HX5 := Lib.hid x5
          have HD2a := Lib.hid D2a
          have hrl := D2.lt
          clear HX D2 hK x1 x4 x5 D2a d0 d1 d2 d3 s3 g0 g1 g2 g3 r0 r1 r2 r3 H1 KK hHeld
          go_wp2_with fail
          clear e0 e1 e2 e3 e4 e5 s4
          have H1 := (show _ ∧ _ ∧ _ from ⟨HX1.out, HX4.out, HX5.out⟩)
          refine wp_region_noPanic ?_
          refine wp_region_held_drew (S := (fun W => W.cell? ⟨w'.heap.size, 1, none⟩ = some (.int .i64 f) ∧ W.cell? ⟨w'.heap.size, 4, none⟩ = some (.int .i64 nn) ∧ W.cell? ⟨w'.heap.size, 5, none⟩ = some (.slice ba L bc))) (by kernel_rfl) (by assumption) (fun hHeld => ?_)
          (refine takeW (i := 0) (v := ?_) rfl (by kernel_rfl) (by kernel_rfl) (by kernel_rfl) (fun _ _ _ h => h) (by rfl) (by assumption) ?_ ?_; rotate_left; (intro W hW; (try dsimp only at hW); go_simp; try with_reducible rfl); (try simp only [Act.put, List.setIfInBounds_toArray, List.set_cons_zero, List.set_cons_succ]))
          (refine takeW (i := 1) (v := ?_) rfl (by kernel_rfl) (by kernel_rfl) (by kernel_rfl) (fun _ _ _ h => h) (by rfl) (by assumption) ?_ ?_; rotate_left; (intro W hW; (try dsimp only at hW); go_simp; try with_reducible rfl); (try simp only [Act.put, List.setIfInBounds_toArray, List.set_cons_zero, List.set_cons_succ]))
          (refine takeW (i := 2) (v := ?_) rfl (by kernel_rfl) (by kernel_rfl) (by kernel_rfl) (fun _ _ _ h => h) (by rfl) (by assumption) ?_ ?_; rotate_left; (intro W hW; (try dsimp only at hW); go_simp; try with_reducible rfl); (try simp only [Act.put, List.setIfInBounds_toArray, List.set_cons_zero, List.set_cons_succ]))
          (refine takeW (i := 3) (v := ?_) rfl (by kernel_rfl) (by kernel_rfl) (by kernel_rfl) (fun _ _ _ h => h) (by rfl) (by assumption) ?_ ?_; rotate_left; (intro W hW; (try dsimp only at hW); go_simp; try with_reducible rfl); (try simp only [Act.put, List.setIfInBounds_toArray, List.set_cons_zero, List.set_cons_succ]))
          (refine takeW (i := 4) (v := ?_) rfl (by kernel_rfl) (by kernel_rfl) (by kernel_rfl) (fun _ _ _ h => h) (by rfl) (by assumption) ?_ ?_; rotate_left; (intro W hW; (try dsimp only at hW); go_simp; try with_reducible rfl); (try simp only [Act.put, List.setIfInBounds_toArray, List.set_cons_zero, List.set_cons_succ]))
          (refine takeW (i := 5) (v := ?_) rfl (by kernel_rfl) (by kernel_rfl) (by kernel_rfl) (fun _ _ _ h => h) (by rfl) (by assumption) ?_ ?_; rotate_left; (intro W hW; (try dsimp only at hW); go_simp; try with_reducible rfl); (try simp only [Act.put, List.setIfInBounds_toArray, List.set_cons_zero, List.set_cons_succ]))
          (refine takeW (i := 6) (v := ?_) rfl (by kernel_rfl) (by kernel_rfl) (by kernel_rfl) (fun _ _ _ h => h) (by rfl) (by assumption) ?_ ?_; rotate_left; (intro W hW; (try dsimp only at hW); go_simp; try with_reducible rfl); (try simp only [Act.put, List.setIfInBounds_toArray, List.set_cons_zero, List.set_cons_succ]))
          (refine takeW (i := 7) (v := ?_) rfl (by kernel_rfl) (by kernel_rfl) (by kernel_rfl) (fun _ _ _ h => h) (by rfl) (by assumption) ?_ ?_; rotate_left; (intro W hW; (try dsimp only at hW); go_simp; try with_reducible rfl); (try simp only [Act.put, List.setIfInBounds_toArray, List.set_cons_zero, List.set_cons_succ]))
          (refine takeW (i := 8) (v := ?_) rfl (by kernel_rfl) (by kernel_rfl) (by kernel_rfl) (fun _ _ _ h => h) (by rfl) (by assumption) ?_ ?_; rotate_left; (intro W hW; (try dsimp only at hW); go_simp; try with_reducible rfl); (try simp only [Act.put, List.setIfInBounds_toArray, List.set_cons_zero, List.set_cons_succ]))
          (refine takeC (i := 9) rfl (by kernel_rfl) (by rfl) (fun K hK => ?_); go_simp; (go_at_call 36; (with_reducible refine (hcl _ hal2).mono ?_); rintro e w7 ⟨⟨a7, c7, rfl, hy7⟩, hb7⟩; have hs : _ ∧ _ ∧ _ := ⟨keepCell hb7 HX1.out, keepCell hb7 HX4.out, keepCell hb7 HX5.out⟩; have D7 : Blk w7 (w.heap.size + 1 + 1) 39 #[.int .i64 0, .int .i64 0, .int .i64 0, .slice none 0 0] := (hb7.block _ HD2a.out.lt).trans HD2a.out; have r0 : w7.cell? ⟨w.heap.size + 1 + 1, 0, none⟩ = some (.int .i64 0) := D7.cell 0; have r1 : w7.cell? ⟨w.heap.size + 1 + 1, 1, none⟩ = some (.int .i64 0) := D7.cell 1; have r2 : w7.cell? ⟨w.heap.size + 1 + 1, 2, none⟩ = some (.int .i64 0) := D7.cell 2; have r3 : w7.cell? ⟨w.heap.size + 1 + 1, 3, none⟩ = some (.slice none 0 0) := D7.cell 3; have g0 := D7.frozen 0; have g1 := D7.frozen 1; have g2 := D7.frozen 2; have g3 := D7.frozen 3); refine hK.out _ _ hs (fun hHeld => ?_); clear hK K; (try simp only [Act.put, List.setIfInBounds_toArray, List.set_cons_zero, List.set_cons_succ]))
          (refine takeW (i := 10) (v := ?_) rfl (by kernel_rfl) (by kernel_rfl) (by kernel_rfl) (fun _ _ _ h => h) (by rfl) (by assumption) ?_ ?_; rotate_left; (intro W hW; (try dsimp only at hW); go_simp; try with_reducible rfl); (try simp only [Act.put, List.setIfInBounds_toArray, List.set_cons_zero, List.set_cons_succ]))
          (refine takeW (i := 11) (v := ?_) rfl (by kernel_rfl) (by kernel_rfl) (by kernel_rfl) (fun _ _ _ h => h) (by rfl) (by assumption) ?_ ?_; rotate_left; (intro W hW; (try dsimp only at hW); go_simp; try with_reducible rfl); (try simp only [Act.put, List.setIfInBounds_toArray, List.set_cons_zero, List.set_cons_succ]))
          (refine takeC (i := 12) rfl (by kernel_rfl) (by rfl) (fun K hK => ?_); go_simp; refine hK.out _ _ ⟨(setFour (by omega)).trans hs.1, (setFour (by omega)).trans hs.2.1, (setFour (by omega)).trans hs.2.2⟩ (fun hHeld => ?_); clear hK K; (try simp only [Act.put, List.setIfInBounds_toArray, List.set_cons_zero, List.set_cons_succ]))
          refine wpAnyH_done (by kernel_rfl) ?_ _
          refine NoPanic.normal ?_
          subst hX
          go_wp2
          have hB7 : Below w.heap.size w w7 := hal2.trans (hb7.mono hal2.size)
          have hK7 : w7.heap[D]? = some (.deferred (some [])) := (hb7.block D (Array.getElem?_eq_some_iff.1 hKa).1).trans hKa
          refine judge_end (x := ⟨2, f, nn, BB⟩) (a := a7) (c := c7) (by omega) ((set4_heap w7 _ D _ _ _ _ (by omega)).trans hK7) (set4_below _ (by omega) hB7 _ _ _ _) (by simp only [HLe.out]; exact D7.set4 _ _ _ _) ?_ rfl rfl
          simp only [HLe.out]
          exact hy7.far (g := w.heap.size + 1 + 1) (fun o x hx => by
            rw [D7.cell o] at hx
            match o, hx with
            | 0, hx => simp at hx
            | 1, hx => simp at hx
            | 2, hx => simp at hx
            | 3, hx => simp at hx
            | o + 4, hx => simp at hx) (fun b' hb' => set4_heap w7 _ b' _ _ _ _ hb') (set4_below (B := w.heap.size) (a := w7) (w.heap.size + 1 + 1) (by omega) (Below.refl _ _) _ _ _ _).size
      | cons j ys =>
        have hX : X = ⟨1, 0, 0, []⟩ := HJ.out
        subst hX
        have hm : (2 : Int) ≤ ((i :: j :: ys).length : Int) := by simp; omega
        generalize ((i :: j :: ys).length : Int) = m at *
        have hm0 : (m == 0) = false := by simp; omega
        have hm1 : (m == 1) = false := by simp; omega
        have H1 : W.drew.cell? ⟨w.heap.size + 1 + 1 + 1, 0, none⟩ = some (.int .i64 m) := c3
        clear HJ HYM D0 D1 D3 D4 c4 hs0
        go_wp2_with fail
        refine wp_region_noPanic ?_
        refine wp_region_held_drew (S := (fun W => W.cell? ⟨w.heap.size + 1 + 1 + 1, 0, none⟩ = some (.int .i64 m))) (by kernel_rfl) (by assumption) (fun hHeld => ?_)
        (refine takeW (i := 0) (v := ?_) rfl (by kernel_rfl) (by kernel_rfl) (by kernel_rfl) (fun _ _ _ h => h) (by rfl) (by assumption) ?_ ?_; rotate_left; (intro W hW; (try dsimp only at hW); go_simp; try with_reducible rfl); (try simp only [Act.put, List.setIfInBounds_toArray, List.set_cons_zero, List.set_cons_succ]))
        (refine takeW (i := 1) (v := ?_) rfl (by kernel_rfl) (by kernel_rfl) (by kernel_rfl) (fun _ _ _ h => h) (by rfl) (by assumption) ?_ ?_; rotate_left; (intro W hW; (try dsimp only at hW); go_simp; try with_reducible rfl); (try simp only [Act.put, List.setIfInBounds_toArray, List.set_cons_zero, List.set_cons_succ]))
        (refine takeW (i := 2) (v := ?_) rfl (by kernel_rfl) (by kernel_rfl) (by kernel_rfl) (fun _ _ _ h => h) (by rfl) (by assumption) ?_ ?_; rotate_left; (intro W hW; (try dsimp only at hW); go_simp; try with_reducible rfl); (try simp only [Act.put, List.setIfInBounds_toArray, List.set_cons_zero, List.set_cons_succ]))
        first
          | (refine takeW (i := 3) (v := ?_) rfl (by kernel_rfl) (by kernel_rfl) (by kernel_rfl) (fun _ _ _ h => h) (by rfl) (by assumption) ?_ ?_; rotate_left; (intro W hW; (try dsimp only at hW); go_simp; try with_reducible rfl); (try simp only [Act.put, List.setIfInBounds_toArray, List.set_cons_zero, List.set_cons_succ]))
          | (refine takeU (i := 3) rfl (by kernel_rfl) (by kernel_rfl) (by kernel_rfl) (fun _ _ _ h => h) (by rfl) (by assumption) ?_; (try simp only [Act.put, List.setIfInBounds_toArray, List.set_cons_zero, List.set_cons_succ]))
        first
          | (refine takeW (i := 4) (v := ?_) rfl (by kernel_rfl) (by kernel_rfl) (by kernel_rfl) (fun _ _ _ h => h) (by rfl) (by assumption) ?_ ?_; rotate_left; (intro W hW; (try dsimp only at hW); go_simp; try with_reducible rfl); (try simp only [Act.put, List.setIfInBounds_toArray, List.set_cons_zero, List.set_cons_succ]))
          | (refine takeU (i := 4) rfl (by kernel_rfl) (by kernel_rfl) (by kernel_rfl) (fun _ _ _ h => h) (by rfl) (by assumption) ?_; (try simp only [Act.put, List.setIfInBounds_toArray, List.set_cons_zero, List.set_cons_succ]))
        first
          | (refine takeW (i := 5) (v := ?_) rfl (by kernel_rfl) (by kernel_rfl) (by kernel_rfl) (fun _ _ _ h => h) (by rfl) (by assumption) ?_ ?_; rotate_left; (intro W hW; (try dsimp only at hW); go_simp; try with_reducible rfl); (try simp only [Act.put, List.setIfInBounds_toArray, List.set_cons_zero, List.set_cons_succ]))
          | (refine takeU (i := 5) rfl (by kernel_rfl) (by kernel_rfl) (by kernel_rfl) (fun _ _ _ h => h) (by rfl) (by assumption) ?_; (try simp only [Act.put, List.setIfInBounds_toArray, List.set_cons_zero, List.set_cons_succ]))
        first
          | (refine takeW (i := 6) (v := ?_) rfl (by kernel_rfl) (by kernel_rfl) (by kernel_rfl) (fun _ _ _ h => h) (by rfl) (by assumption) ?_ ?_; rotate_left; (intro W hW; (try dsimp only at hW); go_simp; try with_reducible rfl); (try simp only [Act.put, List.setIfInBounds_toArray, List.set_cons_zero, List.set_cons_succ]))
          | (refine takeU (i := 6) rfl (by kernel_rfl) (by kernel_rfl) (by kernel_rfl) (fun _ _ _ h => h) (by rfl) (by assumption) ?_; (try simp only [Act.put, List.setIfInBounds_toArray, List.set_cons_zero, List.set_cons_succ]))
        first
          | (refine takeW (i := 7) (v := ?_) rfl (by kernel_rfl) (by kernel_rfl) (by kernel_rfl) (fun _ _ _ h => h) (by rfl) (by assumption) ?_ ?_; rotate_left; (intro W hW; (try dsimp only at hW); go_simp; try with_reducible rfl); (try simp only [Act.put, List.setIfInBounds_toArray, List.set_cons_zero, List.set_cons_succ]))
          | (refine takeU (i := 7) rfl (by kernel_rfl) (by kernel_rfl) (by kernel_rfl) (fun _ _ _ h => h) (by rfl) (by assumption) ?_; (try simp only [Act.put, List.setIfInBounds_toArray, List.set_cons_zero, List.set_cons_succ]))
        first
          | (refine takeW (i := 8) (v := ?_) rfl (by kernel_rfl) (by kernel_rfl) (by kernel_rfl) (fun _ _ _ h => h) (by rfl) (by assumption) ?_ ?_; rotate_left; (intro W hW; (try dsimp only at hW); go_simp; try with_reducible rfl); (try simp only [Act.put, List.setIfInBounds_toArray, List.set_cons_zero, List.set_cons_succ]))
          | (refine takeU (i := 8) rfl (by kernel_rfl) (by kernel_rfl) (by kernel_rfl) (fun _ _ _ h => h) (by rfl) (by assumption) ?_; (try simp only [Act.put, List.setIfInBounds_toArray, List.set_cons_zero, List.set_cons_succ]))
        first
          | (refine takeC (i := 9) rfl (by kernel_rfl) (by rfl) (fun K hK => ?_); go_simp; fail; refine hK.out _ _ hs (fun hHeld => ?_); clear hK K; (try simp only [Act.put, List.setIfInBounds_toArray, List.set_cons_zero, List.set_cons_succ]))
          | (refine takeU (i := 9) rfl (by kernel_rfl) (by kernel_rfl) (by kernel_rfl) (fun _ _ _ h => h) (by rfl) (by assumption) ?_; (try simp only [Act.put, List.setIfInBounds_toArray, List.set_cons_zero, List.set_cons_succ]))
        (refine takeW (i := 10) (v := ?_) rfl (by kernel_rfl) (by kernel_rfl) (by kernel_rfl) (fun _ _ _ h => h) (by rfl) (by assumption) ?_ ?_; rotate_left; (intro W hW; (try dsimp only at hW); go_simp; try with_reducible rfl); (try simp only [Act.put, List.setIfInBounds_toArray, List.set_cons_zero, List.set_cons_succ]))
        (refine takeW (i := 11) (v := ?_) rfl (by kernel_rfl) (by kernel_rfl) (by kernel_rfl) (fun _ _ _ h => h) (by rfl) (by assumption) ?_ ?_; rotate_left; (intro W hW; (try dsimp only at hW); go_simp; try with_reducible rfl); (try simp only [Act.put, List.setIfInBounds_toArray, List.set_cons_zero, List.set_cons_succ]))
        refine wpAnyH_done (by kernel_rfl) ?_ _
        refine NoPanic.normal ?_
        go_wp2
        exact judge_end (by omega) ((set4_heap W _ D _ _ _ _ (by omega)).trans hK) (set4_below _ (by omega) hB _ _ _ _).drew (D2.set4 _ _ _ _) (Byts.nil _) rfl rfl
  case stop =>
    rintro D c pre W _ _ h _
    exact h.elim
end Go.Proofs.Ytehgiagefiakkaa
