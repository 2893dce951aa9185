/- The document's Judge. -/
import Derived.Test.YtehgiagefiakkaaB12
import Derived.Test.YtehgiagefiakkaaB7
import Derived.Test.YtehgiagefiakkaaB8
namespace Go.Proofs.Ytehgiagefiakkaa
open Go.RowKit Go.Shelf
open Sched (Sp bad)
open Sig

theorem Blk.keep' {w w' : World} {b : Nat} {t : TypeId} {cs : Array Value} (h : Blk w b t cs) (hb : Below w.heap.size w w') : Blk w' b t cs := (hb.block _ h.lt).trans h
/-- An append as one step. -/
theorem oper_app {P : Program} {o : Oper} {a : Act} {w : World} {K : Act → World → Prop} {Q : Exit → Act → World → Prop} {base : Nat} {t e : TypeId} {z : Value} {size bytes : Nat} (El : Elem P t e z size bytes)
    (s x : Operand) (hop : o.op = .call { callee := .builtin .append, args := #[s, x], argTypes := #[t, t] })
    {v : Value} {n : Nat} {xs : List Value} (hown : w.ownsRow base e size v n xs) {sv : Value} {m : Nat} {news : List Value} (hsrc : Src w sv m news size) (hs : a.eval s = v) (hx : a.eval x = sv) (hby : (n + m) * bytes ≤ 140737488355328) (hbase : base ≤ w.heap.size)
    (hK : ∀ v' w', w'.ownsRow base e size v' (n + m) (xs ++ news) → w.grownBy w' v.ownBlock → K (a.put o.dst v') w') : Oper.wp P o a w K Q := by
  obtain ⟨v', w', hr, h2, h3, _⟩ := run_app (ty := o.type) El hown hsrc hby hbase
  unfold Oper.wp execOp
  simp only [hop, resolve, invoke, builtin, Sem.run_bind, Sem.run_pure, Result.andThen_ok, List.map_toArray, List.map_cons, List.map_nil, hs, hx, hr]
  exact hK v' w' h2 h3
/-- The boxes of the walk. -/
def JS (w W : World) (K : Nat) (sv : Array Value) (sf st wf wt : Int) : Prop :=
  Blk W K 28 sv ∧ Blk W w.heap.size 23 #[.int .i64 sf, .int .i64 st] ∧ Blk W (w.heap.size + 1) 23 #[.int .i64 wf, .int .i64 wt] ∧ Blk W (w.heap.size + 1 + 1) 39 #[.int .i64 0, .int .i64 0, .int .i64 0, .slice none 0 0] ∧ Below w.heap.size w W
theorem JS.keep {w W W' : World} {K : Nat} {sv : Array Value} {sf st wf wt : Int} (h : JS w W K sv sf st wf wt) (hb : Below W.heap.size W W') : JS w W' K sv sf st wf wt :=
  ⟨h.1.keep' hb, h.2.1.keep' hb, h.2.2.1.keep' hb, h.2.2.2.1.keep' hb, h.2.2.2.2.trans (hb.mono h.2.2.2.2.size)⟩
theorem JS.cells {w W : World} {K : Nat} {v0 v1 v2 v3 v4 v5 : Value} {sf st wf wt : Int} (h : JS w W K #[v0, v1, v2, v3, v4, v5] sf st wf wt) :
    (W.cell? ⟨K, 0, none⟩ = some v0 ∧ W.cell? ⟨K, 1, none⟩ = some v1 ∧ W.cell? ⟨K, 2, none⟩ = some v2 ∧ W.cell? ⟨K, 3, none⟩ = some v3 ∧ W.cell? ⟨K, 4, none⟩ = some v4 ∧ W.cell? ⟨K, 5, none⟩ = some v5) ∧
    W.cell? ⟨w.heap.size, 0, none⟩ = some (.int .i64 sf) ∧ W.cell? ⟨w.heap.size, 1, none⟩ = some (.int .i64 st) ∧ W.cell? ⟨w.heap.size + 1, 0, none⟩ = some (.int .i64 wf) ∧ W.cell? ⟨w.heap.size + 1, 1, none⟩ = some (.int .i64 wt) :=
  ⟨⟨h.1.cell 0, h.1.cell 1, h.1.cell 2, h.1.cell 3, h.1.cell 4, h.1.cell 5⟩, h.2.1.cell 0, h.2.1.cell 1, h.2.2.1.cell 0, h.2.2.1.cell 1⟩
theorem JS.zs {w W : World} {K : Nat} {sv : Array Value} {sf st wf wt : Int} (h : JS w W K sv sf st wf wt) :
    (W.cell? ⟨w.heap.size + 1 + 1, 0, none⟩ = some (.int .i64 0) ∧ W.cell? ⟨w.heap.size + 1 + 1, 1, none⟩ = some (.int .i64 0) ∧ W.cell? ⟨w.heap.size + 1 + 1, 2, none⟩ = some (.int .i64 0) ∧ W.cell? ⟨w.heap.size + 1 + 1, 3, none⟩ = some (.slice none 0 0)) ∧
    W.frozen? ⟨w.heap.size + 1 + 1, 0, none⟩ = false ∧ W.frozen? ⟨w.heap.size + 1 + 1, 1, none⟩ = false ∧ W.frozen? ⟨w.heap.size + 1 + 1, 2, none⟩ = false ∧ W.frozen? ⟨w.heap.size + 1 + 1, 3, none⟩ = false :=
  ⟨⟨h.2.2.2.1.cell 0, h.2.2.2.1.cell 1, h.2.2.2.1.cell 2, h.2.2.2.1.cell 3⟩, h.2.2.2.1.frozen 0, h.2.2.2.1.frozen 1, h.2.2.2.1.frozen 2, h.2.2.2.1.frozen 3⟩

theorem rjudge_end {w W : World} {x : Sn} {a : Option Addr} {c : Nat} {a0 : Act} (hB : Below w.heap.size w W)
    (hr : Blk W (w.heap.size + 1 + 1) 39 #[.int .i64 x.kind, .int .i64 x.at_, .int .i64 x.n, .slice a x.b.length c]) (hby : Byts W (.slice a x.b.length c) x.b)
    (ht : a0.tmps[8]? = some (.pointer (some ⟨w.heap.size + 1 + 1, 0, none⟩))) (hd : a0.defers = []) : bodyPost Try.prog Try.f19 (JudgePost x w) Exit.ret a0 W := by
  obtain ⟨tmps, df⟩ := a0
  simp only at ht hd
  subst hd
  have e0 : W.cell? ⟨w.heap.size + 1 + 1, 0, none⟩ = some (.int .i64 x.kind) := hr.cell 0
  have e1 : W.cell? ⟨w.heap.size + 1 + 1, 1, none⟩ = some (.int .i64 x.at_) := hr.cell 1
  have e2 : W.cell? ⟨w.heap.size + 1 + 1, 2, none⟩ = some (.int .i64 x.n) := hr.cell 2
  have e3 : W.cell? ⟨w.heap.size + 1 + 1, 3, none⟩ = some (.slice a x.b.length c) := hr.cell 3
  exact bodyPost_ret (v := snv x a c) (by unfold snv; simp [results, Try.f19, go_sem, e0, e1, e2, e3, ht]) rfl ⟨a, c, rfl, hby, hB⟩

set_option maxRecDepth 100000 in
set_option maxHeartbeats 3200000 in
theorem rjudge_any (l : List Sg) (v : Value) (slot win : Sp) (th : Int) (w : World) (h : Sgs w v l) (hlen : l.length * 8 ≤ 140737488355328) :
    Calls Try.prog 19 #[v, spv slot, spv win, .int .i64 th] w (JudgePost (judge l slot win th) w) := by
  obtain ⟨sf, st⟩ := slot
  obtain ⟨wf, wt⟩ := win
  obtain ⟨a, c, rfl, q1, q2, q3⟩ := h.1.shape
  have hal := below3 w (.cells #[.int .i64 sf, .int .i64 st] 23) (.cells #[.int .i64 wf, .int .i64 wt] 23) (.cells #[.int .i64 0, .int .i64 0, .int .i64 0, .slice none 0 0] 39)
  have hh := rheard_any l _ (sf, st) th _ (h.below hal) hlen
  have B0 : Blk (((w.alloc (.cells #[.int .i64 sf, .int .i64 st] 23)).alloc (.cells #[.int .i64 wf, .int .i64 wt] 23)).alloc (.cells #[.int .i64 0, .int .i64 0, .int .i64 0, .slice none 0 0] 39)) w.heap.size 23 #[.int .i64 sf, .int .i64 st] := ((Blk.new' rfl).alloc _).alloc _
  have B1 : Blk (((w.alloc (.cells #[.int .i64 sf, .int .i64 st] 23)).alloc (.cells #[.int .i64 wf, .int .i64 wt] 23)).alloc (.cells #[.int .i64 0, .int .i64 0, .int .i64 0, .slice none 0 0] 39)) (w.heap.size + 1) 23 #[.int .i64 wf, .int .i64 wt] := (Blk.new' (by simp)).alloc _
  have B2 : Blk (((w.alloc (.cells #[.int .i64 sf, .int .i64 st] 23)).alloc (.cells #[.int .i64 wf, .int .i64 wt] 23)).alloc (.cells #[.int .i64 0, .int .i64 0, .int .i64 0, .slice none 0 0] 39)) (w.heap.size + 1 + 1) 39 #[.int .i64 0, .int .i64 0, .int .i64 0, .slice none 0 0] := Blk.new' (by simp)
  have HJ : Hid (judge l (sf, st) (wf, wt) th = judgeOf l (sf, st) (wf, wt) (hitsTo l (sf, st) th l.length)) := rfl
  have HSg := Lib.hid h
  have HYM : Hid (∀ i ∈ hitsTo l (sf, st) th l.length, ∃ s, l[i]? = some s) := fun i hi => by
    have := List.mem_range.1 (List.mem_filter.1 hi).1
    exact ⟨_, List.getElem?_eq_getElem this⟩
  have HYL := Lib.hid (hitsTo_len l (sf, st) th l.length)
  unfold spv HeardPost at hh
  unfold spv
  simp only at hh ⊢
  generalize judge _ _ _ _ = X at *
  generalize hitsTo l (sf, st) th l.length = y at *
  have HB0 := Lib.hid B0
  have HB1 := Lib.hid B1
  have HB2 := Lib.hid B2
  have HAL := Lib.hid hal
  clear B0 B1 B2 hal h q1 q2 q3 hlen
  go_enter Try.func19, Try.ntmps19
  go_upto_region 2 with (go_at_call 30; refine hh.mono ?_; rintro e w1 ⟨⟨v1, rfl, hown⟩, hb1⟩)
  obtain ⟨a1, c1, rfl, p1, p2, p3⟩ := owns_shape hown
  have C0 : Blk w1 w.heap.size 23 #[.int .i64 sf, .int .i64 st] := Blk.keep' HB0.out hb1
  have C1 : Blk w1 (w.heap.size + 1) 23 #[.int .i64 wf, .int .i64 wt] := Blk.keep' HB1.out hb1
  have Z : Blk w1 (w.heap.size + 1 + 1) 39 #[.int .i64 0, .int .i64 0, .int .i64 0, .slice none 0 0] := Blk.keep' HB2.out hb1
  have hB := HAL.out.trans (hb1.mono HAL.out.size)
  have hbs := hb1.size
  have hsz : w.heap.size + 1 + 1 < w1.heap.size := Z.lt
  clear HB0 HB1 HB2 HAL hb1 hh
  cases y with
  | nil =>
    have hX : X = ⟨0, 0, 0, []⟩ := HJ.out
    subst hX
    have g0 := Z.frozen 0; have g1 := Z.frozen 1; have g2 := Z.frozen 2; have g3 := Z.frozen 3; have z0 := Z.cell 0; have z1 := Z.cell 1; have z2 := Z.cell 2; have z3 := Z.cell 3; simp only [List.getElem?_toArray, List.getElem?_cons_zero, List.getElem?_cons_succ] at z0 z1 z2 z3
    simp only [List.length_nil]
    have HZ := Lib.hid Z
    have HB := Lib.hid hB
    clear HJ hown p1 p2 p3 Z hB C0 C1
    go_wp2
    exact rjudge_end (set4_below _ (by omega) HB.out _ _ _ _) (HZ.out.set4 _ _ _ _) (Byts.nil _) rfl rfl
  | cons i ys =>
    obtain ⟨s, hs0⟩ := HYM.out i (by simp)
    have hil := (List.getElem?_eq_some_iff.1 hs0).1
    have hSg := HSg.out.below hB
    obtain ⟨b, off, rfl, hbl, hcc⟩ := hSg.1.row (by rintro rfl; simp at hil)
    obtain ⟨g, rfl, hg1, hg2⟩ := p3 (by simp)
    have hi0 : w1.cell? ⟨g, 0, none⟩ = some (.int .i64 (i : Int)) := by rw [hown.cellAt 0 (by simp)]; rfl
    obtain ⟨e0, e1, e2, e3, e4, e5⟩ := sg_cells hcc hs0
    have hgd := hSg.2 s (List.mem_of_getElem? hs0)
    have hii : (i : Int) < (l.length : Int) := by omega
    obtain ⟨fr, ⟨f, t⟩, lv, nn, ba, bc, BB⟩ := s
    have hw := fun W (hW : Below w.heap.size w W) => rwhole_any ⟨fr, (f, t), lv, nn, ba, bc, BB⟩ W ((HSg.out.below hW).2 _ (List.mem_of_getElem? hs0))
    have HGD := Lib.hid (fun W (hW : Below w.heap.size w W) => ((HSg.out.below hW).2 _ (List.mem_of_getElem? hs0)).1)
    have hHX : ys = [] → X = if clr ⟨fr, (f, t), lv, nn, ba, bc, BB⟩ (sf, st) (wf, wt) then ⟨2, f, nn, BB⟩ else ⟨1, 0, 0, []⟩ := by
      rintro rfl
      rw [HJ.out]; simp only [judgeOf, hs0]
    have hHX2 : ys ≠ [] → X = ⟨1, 0, 0, []⟩ := by
      intro hn
      rw [HJ.out]
      cases ys with
      | nil => exact absurd rfl hn
      | cons j ys => rfl
    have HX2 := Lib.hid hHX2
    have hwi := fun W => rwithin_any f t sf st W
    have hcw := fun W => rcheck_any wf wt W
    have HCL : Hid (clr ⟨fr, (f, t), lv, nn, ba, bc, BB⟩ (sf, st) (wf, wt) = (whole ⟨fr, (f, t), lv, nn, ba, bc, BB⟩ && within (f, t) (sf, st) && !bad (wf, wt) && decide (wf ≤ f) && decide (f < wt))) := rfl
    have HZ : Hid (chk (wf, wt) = if bad (wf, wt) then 60 else 0) := rfl
    unfold sgv at hw
    unfold spv at hwi hcw
    simp only at e0 e1 e2 e3 e4 e5 hw
    generalize whole _ = p at *
    generalize within _ _ = q at *
    generalize bad (wf, wt) = r at *
    generalize chk (wf, wt) = z at *
    generalize clr _ _ _ = pc at *
    generalize hL : BB.length = L at *
    have HL := Lib.hid hL
    have HX := Lib.hid hHX
    have HS : Hid (JS w (w1.alloc (.cells #[.int .i64 fr, .int .i64 f, .int .i64 t, .int .i64 lv, .int .i64 nn, .slice ba L bc] 28)) w1.heap.size #[.int .i64 fr, .int .i64 f, .int .i64 t, .int .i64 lv, .int .i64 nn, .slice ba L bc] sf st wf wt) :=
      ⟨Blk.new' rfl, C0.alloc _, C1.alloc _, Z.alloc _, hB.alloc hB.size _⟩
    have hm : (1 : Int) ≤ ((i :: ys).length : Int) := by simp; omega
    have hHM : ys ≠ [] → (2 : Int) ≤ ((i :: ys).length : Int) := by cases ys <;> simp; omega
    have hHM1 : ys = [] → ((i :: ys).length : Int) = 1 := by rintro rfl; rfl
    clear hL hHX hHX2 HJ HYM HYL hown hSg HSg hcc hgd C0 C1 Z hB hs0 hbs
    generalize (i :: ys).length = m at *
    by_cases hys : ys = []
    · have hX := HX.out hys
      obtain rfl : m = 1 := by have := hHM1 hys; omega
      have HXX := Lib.hid hX
      clear hHM hHM1 hys HX HX2 hm hX
      go_upto_region 5 with fail
      obtain ⟨⟨k0, k1, k2, k3, k4, k5⟩, s0, s1, s2, s3⟩ := HS.out.cells
      obtain ⟨⟨z0, z1, z2, z3⟩, g0, g1, g2, g3⟩ := HS.out.zs
      generalize w1.alloc (.cells #[.int .i64 fr, .int .i64 f, .int .i64 t, .int .i64 lv, .int .i64 nn, .slice ba L bc] 28) = W4 at *
      cases p
      · obtain rfl : pc = false := by rw [HCL.out]; simp; try omega
        have hX : X = ⟨1, 0, 0, []⟩ := HXX.out
        subst hX
        clear HCL
        go_wp2_with (first
          | (go_at_call 15; refine (hw _ HS.out.2.2.2.2).mono ?_; rintro e w5 ⟨rfl, hb5⟩; have HS5 := Lib.hid (HS.out.keep hb5); obtain ⟨⟨k0, k1, k2, k3, k4, k5⟩, s0, s1, s2, s3⟩ := HS5.out.cells; obtain ⟨⟨z0, z1, z2, z3⟩, g0, g1, g2, g3⟩ := HS5.out.zs; clear hb5)
          | (go_at_call 24; refine (hwi _).mono ?_; rintro e w6 ⟨rfl, hb6⟩; have HS6 := Lib.hid (HS5.out.keep hb6); obtain ⟨⟨k0, k1, k2, k3, k4, k5⟩, s0, s1, s2, s3⟩ := HS6.out.cells; obtain ⟨⟨z0, z1, z2, z3⟩, g0, g1, g2, g3⟩ := HS6.out.zs; clear hb6)
          | (go_at_call 25; refine (hcw _).mono ?_; rintro e w7 ⟨rfl, hb7⟩; have HS7 := Lib.hid (HS6.out.keep hb7); obtain ⟨⟨k0, k1, k2, k3, k4, k5⟩, s0, s1, s2, s3⟩ := HS7.out.cells; obtain ⟨⟨z0, z1, z2, z3⟩, g0, g1, g2, g3⟩ := HS7.out.zs; clear hb7))
        exact rjudge_end (set4_below _ (by omega) HS5.out.2.2.2.2 _ _ _ _) (HS5.out.2.2.2.1.set4 _ _ _ _) (Byts.nil _) rfl rfl
      · cases q
        · obtain rfl : pc = false := by rw [HCL.out]; simp; try omega
          have hX : X = ⟨1, 0, 0, []⟩ := HXX.out
          subst hX
          clear HCL
          go_wp2_with (first
            | (go_at_call 15; refine (hw _ HS.out.2.2.2.2).mono ?_; rintro e w5 ⟨rfl, hb5⟩; have HS5 := Lib.hid (HS.out.keep hb5); obtain ⟨⟨k0, k1, k2, k3, k4, k5⟩, s0, s1, s2, s3⟩ := HS5.out.cells; obtain ⟨⟨z0, z1, z2, z3⟩, g0, g1, g2, g3⟩ := HS5.out.zs; clear hb5)
            | (go_at_call 24; refine (hwi _).mono ?_; rintro e w6 ⟨rfl, hb6⟩; have HS6 := Lib.hid (HS5.out.keep hb6); obtain ⟨⟨k0, k1, k2, k3, k4, k5⟩, s0, s1, s2, s3⟩ := HS6.out.cells; obtain ⟨⟨z0, z1, z2, z3⟩, g0, g1, g2, g3⟩ := HS6.out.zs; clear hb6)
            | (go_at_call 25; refine (hcw _).mono ?_; rintro e w7 ⟨rfl, hb7⟩; have HS7 := Lib.hid (HS6.out.keep hb7); obtain ⟨⟨k0, k1, k2, k3, k4, k5⟩, s0, s1, s2, s3⟩ := HS7.out.cells; obtain ⟨⟨z0, z1, z2, z3⟩, g0, g1, g2, g3⟩ := HS7.out.zs; clear hb7))
          exact rjudge_end (set4_below _ (by omega) HS6.out.2.2.2.2 _ _ _ _) (HS6.out.2.2.2.1.set4 _ _ _ _) (Byts.nil _) rfl rfl
        · cases r
          · obtain rfl : z = 0 := HZ.out
            clear HZ
            by_cases d1 : wf ≤ f
            · have d1' : ¬ f < wf := by omega
              by_cases d2 : f < wt
              · have d2' : ¬ wt ≤ f := by omega
                obtain rfl : pc = true := by rw [HCL.out]; simp; omega
                have hX := HXX.out
                clear HCL HXX
                go_upto_region 7 with (first
                  | (go_at_call 15; refine (hw _ HS.out.2.2.2.2).mono ?_; rintro e w5 ⟨rfl, hb5⟩; have HS5 := Lib.hid (HS.out.keep hb5); obtain ⟨⟨k0, k1, k2, k3, k4, k5⟩, s0, s1, s2, s3⟩ := HS5.out.cells; obtain ⟨⟨z0, z1, z2, z3⟩, g0, g1, g2, g3⟩ := HS5.out.zs; clear hb5)
                  | (go_at_call 24; refine (hwi _).mono ?_; rintro e w6 ⟨rfl, hb6⟩; have HS6 := Lib.hid (HS5.out.keep hb6); obtain ⟨⟨k0, k1, k2, k3, k4, k5⟩, s0, s1, s2, s3⟩ := HS6.out.cells; obtain ⟨⟨z0, z1, z2, z3⟩, g0, g1, g2, g3⟩ := HS6.out.zs; clear hb6)
                  | (go_at_call 25; refine (hcw _).mono ?_; rintro e w7 ⟨rfl, hb7⟩; have HS7 := Lib.hid (HS6.out.keep hb7); obtain ⟨⟨k0, k1, k2, k3, k4, k5⟩, s0, s1, s2, s3⟩ := HS7.out.cells; obtain ⟨⟨z0, z1, z2, z3⟩, g0, g1, g2, g3⟩ := HS7.out.zs; clear hb7))
                have HD : Hid (JS w w7.drew w1.heap.size #[.int .i64 fr, .int .i64 f, .int .i64 t, .int .i64 lv, .int .i64 nn, .slice ba L bc] sf st wf wt) := ⟨HS7.out.1, HS7.out.2.1, HS7.out.2.2.1, HS7.out.2.2.2.1, HS7.out.2.2.2.2.drew⟩
                have hby7 := HGD.out w7.drew HD.out.2.2.2.2
                have hl7 : BB.length ≤ 140737488351232 := hby7.1.len
                have hsrc7 : Src w7.drew (.slice ba L bc) BB.length (BB.map (.int .u8)) 1 := hby7.src
                have H1 : w7.drew.cell? ⟨w1.heap.size, 1, none⟩ = some (.int .i64 f) ∧ w7.drew.cell? ⟨w1.heap.size, 4, none⟩ = some (.int .i64 nn) ∧ w7.drew.cell? ⟨w1.heap.size, 5, none⟩ = some (.slice ba L bc) := ⟨HD.out.1.cell 1, HD.out.1.cell 4, HD.out.1.cell 5⟩
                have HH1 := Lib.hid H1
                have HB7 := Lib.hid hby7.2
                clear hby7 z0 z1 z2 z3 g0 g1 g2 g3
                refine wp_region_held_drew (S := (fun W => W.cell? ⟨w1.heap.size, 1, none⟩ = some (.int .i64 f) ∧ W.cell? ⟨w1.heap.size, 4, none⟩ = some (.int .i64 nn) ∧ W.cell? ⟨w1.heap.size, 5, none⟩ = some (.slice ba L bc))) (by kernel_rfl) (by assumption) (fun hHeld => ?_)
                (refine takeW (i := 0) (v := ?_) rfl (by kernel_rfl) (by kernel_rfl) (by kernel_rfl) (fun _ _ _ h => h) (by rfl) (by assumption) ?_ ?_; rotate_left; (intro W hW; (try dsimp only at hW); go_simp; try with_reducible rfl); (try simp only [Act.put, List.setIfInBounds_toArray, List.set_cons_zero, List.set_cons_succ]))
                (refine takeW (i := 1) (v := ?_) rfl (by kernel_rfl) (by kernel_rfl) (by kernel_rfl) (fun _ _ _ h => h) (by rfl) (by assumption) ?_ ?_; rotate_left; (intro W hW; (try dsimp only at hW); go_simp; try with_reducible rfl); (try simp only [Act.put, List.setIfInBounds_toArray, List.set_cons_zero, List.set_cons_succ]))
                (refine takeW (i := 2) (v := ?_) rfl (by kernel_rfl) (by kernel_rfl) (by kernel_rfl) (fun _ _ _ h => h) (by rfl) (by assumption) ?_ ?_; rotate_left; (intro W hW; (try dsimp only at hW); go_simp; try with_reducible rfl); (try simp only [Act.put, List.setIfInBounds_toArray, List.set_cons_zero, List.set_cons_succ]))
                (refine takeW (i := 3) (v := ?_) rfl (by kernel_rfl) (by kernel_rfl) (by kernel_rfl) (fun _ _ _ h => h) (by rfl) (by assumption) ?_ ?_; rotate_left; (intro W hW; (try dsimp only at hW); go_simp; try with_reducible rfl); (try simp only [Act.put, List.setIfInBounds_toArray, List.set_cons_zero, List.set_cons_succ]))
                (refine takeW (i := 4) (v := ?_) rfl (by kernel_rfl) (by kernel_rfl) (by kernel_rfl) (fun _ _ _ h => h) (by rfl) (by assumption) ?_ ?_; rotate_left; (intro W hW; (try dsimp only at hW); go_simp; try with_reducible rfl); (try simp only [Act.put, List.setIfInBounds_toArray, List.set_cons_zero, List.set_cons_succ]))
                (refine takeW (i := 5) (v := ?_) rfl (by kernel_rfl) (by kernel_rfl) (by kernel_rfl) (fun _ _ _ h => h) (by rfl) (by assumption) ?_ ?_; rotate_left; (intro W hW; (try dsimp only at hW); go_simp; try with_reducible rfl); (try simp only [Act.put, List.setIfInBounds_toArray, List.set_cons_zero, List.set_cons_succ]))
                (refine takeW (i := 6) (v := ?_) rfl (by kernel_rfl) (by kernel_rfl) (by kernel_rfl) (fun _ _ _ h => h) (by rfl) (by assumption) ?_ ?_; rotate_left; (intro W hW; (try dsimp only at hW); go_simp; try with_reducible rfl); (try simp only [Act.put, List.setIfInBounds_toArray, List.set_cons_zero, List.set_cons_succ]))
                (refine takeW (i := 7) (v := ?_) rfl (by kernel_rfl) (by kernel_rfl) (by kernel_rfl) (fun _ _ _ h => h) (by rfl) (by assumption) ?_ ?_; rotate_left; (intro W hW; (try dsimp only at hW); go_simp; try with_reducible rfl); (try simp only [Act.put, List.setIfInBounds_toArray, List.set_cons_zero, List.set_cons_succ]))
                (refine takeW (i := 8) (v := ?_) rfl (by kernel_rfl) (by kernel_rfl) (by kernel_rfl) (fun _ _ _ h => h) (by rfl) (by assumption) ?_ ?_; rotate_left; (intro W hW; (try dsimp only at hW); go_simp; try with_reducible rfl); (try simp only [Act.put, List.setIfInBounds_toArray, List.set_cons_zero, List.set_cons_succ]))
                (refine takeC (i := 9) rfl (by kernel_rfl) (by rfl) (fun K hK => ?_); refine oper_app E24 _ _ rfl (World.ownsRow_nil w7.drew w7.drew.heap.size 5 1) hsrc7 rfl rfl (by omega) (Nat.le_refl _) ?_; intro v8 w8 hown8 hgrow8; have hb8 : Below w7.drew.heap.size w7.drew w8 := below_app (Below.refl _ _) (Nat.le_refl _) (World.ownsRow_nil w7.drew w7.drew.heap.size 5 1) hgrow8 (Nat.le_refl _); have hy8' := Byts.of_owns (v := v8) (l := BB) (by simpa using hown8) hl7 HB7.out; obtain ⟨a8, c8, e8, _⟩ := hy8'.1.shape; subst e8; have HY8 : Hid (Byts w8 (.slice a8 L c8) BB) := HL.out ▸ hy8'; clear hy8' hown8 hgrow8; have HS8 := Lib.hid (HD.out.keep hb8); have hs : _ ∧ _ ∧ _ := ⟨keepCell hb8 HH1.out.1, keepCell hb8 HH1.out.2.1, keepCell hb8 HH1.out.2.2⟩; obtain ⟨⟨z0, z1, z2, z3⟩, g0, g1, g2, g3⟩ := HS8.out.zs; (try simp only [HL.out]); refine hK.out _ _ hs (fun hHeld => ?_); clear hK K; (try simp only [Act.put, List.setIfInBounds_toArray, List.set_cons_zero, List.set_cons_succ]))
                (refine takeW (i := 10) (v := ?_) rfl (by kernel_rfl) (by kernel_rfl) (by kernel_rfl) (fun _ _ _ h => h) (by rfl) (by assumption) ?_ ?_; rotate_left; (intro W hW; (try dsimp only at hW); go_simp; try with_reducible rfl); (try simp only [Act.put, List.setIfInBounds_toArray, List.set_cons_zero, List.set_cons_succ]))
                (refine takeW (i := 11) (v := ?_) rfl (by kernel_rfl) (by kernel_rfl) (by kernel_rfl) (fun _ _ _ h => h) (by rfl) (by assumption) ?_ ?_; rotate_left; (intro W hW; (try dsimp only at hW); go_simp; try with_reducible rfl); (try simp only [Act.put, List.setIfInBounds_toArray, List.set_cons_zero, List.set_cons_succ]))
                (refine takeC (i := 12) rfl (by kernel_rfl) (by rfl) (fun K hK => ?_); go_simp; refine hK.out _ _ ⟨(setFour (by omega)).trans hs.1, (setFour (by omega)).trans hs.2.1, (setFour (by omega)).trans hs.2.2⟩ (fun hHeld => ?_); clear hK K; (try simp only [Act.put, List.setIfInBounds_toArray, List.set_cons_zero, List.set_cons_succ]))
                refine wpAnyH_done (by kernel_rfl) ?_ _
                have hX' : X = ⟨2, f, nn, BB⟩ := hX
                subst hX'
                go_wp2
                have D7 := HS8.out.2.2.2.1
                refine rjudge_end (x := ⟨2, f, nn, BB⟩) (a := a8) (c := c8) (set4_below _ (by omega) HS8.out.2.2.2.2 _ _ _ _) (by simp only [HL.out]; exact D7.set4 _ _ _ _) ?_ rfl rfl
                simp only [HL.out]
                exact HY8.out.far (g := w.heap.size + 1 + 1) (fun o x hx => by
                  rw [D7.cell o] at hx
                  match o, hx with
                  | 0, hx => simp at hx
                  | 1, hx => simp at hx
                  | 2, hx => simp at hx
                  | 3, hx => simp at hx
                  | o + 4, hx => simp at hx) (fun b' hb' => set4_heap w8 _ b' _ _ _ _ hb') (set4_below (B := w.heap.size) (a := w8) (w.heap.size + 1 + 1) (by omega) (Below.refl _ _) _ _ _ _).size
              · have d2' : wt ≤ f := by omega
                obtain rfl : pc = false := by rw [HCL.out]; simp; try omega
                have hX : X = ⟨1, 0, 0, []⟩ := HXX.out
                subst hX
                clear HCL
                go_wp2_with (first
                  | (go_at_call 15; refine (hw _ HS.out.2.2.2.2).mono ?_; rintro e w5 ⟨rfl, hb5⟩; have HS5 := Lib.hid (HS.out.keep hb5); obtain ⟨⟨k0, k1, k2, k3, k4, k5⟩, s0, s1, s2, s3⟩ := HS5.out.cells; obtain ⟨⟨z0, z1, z2, z3⟩, g0, g1, g2, g3⟩ := HS5.out.zs; clear hb5)
                  | (go_at_call 24; refine (hwi _).mono ?_; rintro e w6 ⟨rfl, hb6⟩; have HS6 := Lib.hid (HS5.out.keep hb6); obtain ⟨⟨k0, k1, k2, k3, k4, k5⟩, s0, s1, s2, s3⟩ := HS6.out.cells; obtain ⟨⟨z0, z1, z2, z3⟩, g0, g1, g2, g3⟩ := HS6.out.zs; clear hb6)
                  | (go_at_call 25; refine (hcw _).mono ?_; rintro e w7 ⟨rfl, hb7⟩; have HS7 := Lib.hid (HS6.out.keep hb7); obtain ⟨⟨k0, k1, k2, k3, k4, k5⟩, s0, s1, s2, s3⟩ := HS7.out.cells; obtain ⟨⟨z0, z1, z2, z3⟩, g0, g1, g2, g3⟩ := HS7.out.zs; clear hb7))
                exact rjudge_end (set4_below _ (by omega) HS7.out.2.2.2.2 _ _ _ _) (HS7.out.2.2.2.1.set4 _ _ _ _) (Byts.nil _) rfl rfl
            · have d1' : f < wf := by omega
              obtain rfl : pc = false := by rw [HCL.out]; simp; try omega
              have hX : X = ⟨1, 0, 0, []⟩ := HXX.out
              subst hX
              clear HCL
              go_wp2_with (first
                | (go_at_call 15; refine (hw _ HS.out.2.2.2.2).mono ?_; rintro e w5 ⟨rfl, hb5⟩; have HS5 := Lib.hid (HS.out.keep hb5); obtain ⟨⟨k0, k1, k2, k3, k4, k5⟩, s0, s1, s2, s3⟩ := HS5.out.cells; obtain ⟨⟨z0, z1, z2, z3⟩, g0, g1, g2, g3⟩ := HS5.out.zs; clear hb5)
                | (go_at_call 24; refine (hwi _).mono ?_; rintro e w6 ⟨rfl, hb6⟩; have HS6 := Lib.hid (HS5.out.keep hb6); obtain ⟨⟨k0, k1, k2, k3, k4, k5⟩, s0, s1, s2, s3⟩ := HS6.out.cells; obtain ⟨⟨z0, z1, z2, z3⟩, g0, g1, g2, g3⟩ := HS6.out.zs; clear hb6)
                | (go_at_call 25; refine (hcw _).mono ?_; rintro e w7 ⟨rfl, hb7⟩; have HS7 := Lib.hid (HS6.out.keep hb7); obtain ⟨⟨k0, k1, k2, k3, k4, k5⟩, s0, s1, s2, s3⟩ := HS7.out.cells; obtain ⟨⟨z0, z1, z2, z3⟩, g0, g1, g2, g3⟩ := HS7.out.zs; clear hb7))
              exact rjudge_end (set4_below _ (by omega) HS7.out.2.2.2.2 _ _ _ _) (HS7.out.2.2.2.1.set4 _ _ _ _) (Byts.nil _) rfl rfl
          · obtain rfl : z = 60 := HZ.out
            clear HZ
            obtain rfl : pc = false := by rw [HCL.out]; simp; try omega
            have hX : X = ⟨1, 0, 0, []⟩ := HXX.out
            subst hX
            clear HCL
            go_wp2_with (first
              | (go_at_call 15; refine (hw _ HS.out.2.2.2.2).mono ?_; rintro e w5 ⟨rfl, hb5⟩; have HS5 := Lib.hid (HS.out.keep hb5); obtain ⟨⟨k0, k1, k2, k3, k4, k5⟩, s0, s1, s2, s3⟩ := HS5.out.cells; obtain ⟨⟨z0, z1, z2, z3⟩, g0, g1, g2, g3⟩ := HS5.out.zs; clear hb5)
              | (go_at_call 24; refine (hwi _).mono ?_; rintro e w6 ⟨rfl, hb6⟩; have HS6 := Lib.hid (HS5.out.keep hb6); obtain ⟨⟨k0, k1, k2, k3, k4, k5⟩, s0, s1, s2, s3⟩ := HS6.out.cells; obtain ⟨⟨z0, z1, z2, z3⟩, g0, g1, g2, g3⟩ := HS6.out.zs; clear hb6)
              | (go_at_call 25; refine (hcw _).mono ?_; rintro e w7 ⟨rfl, hb7⟩; have HS7 := Lib.hid (HS6.out.keep hb7); obtain ⟨⟨k0, k1, k2, k3, k4, k5⟩, s0, s1, s2, s3⟩ := HS7.out.cells; obtain ⟨⟨z0, z1, z2, z3⟩, g0, g1, g2, g3⟩ := HS7.out.zs; clear hb7))
            exact rjudge_end (set4_below _ (by omega) HS7.out.2.2.2.2 _ _ _ _) (HS7.out.2.2.2.1.set4 _ _ _ _) (Byts.nil _) rfl rfl
    · have hm2 := hHM hys
      have hX : X = ⟨1, 0, 0, []⟩ := HX2.out hys
      subst hX
      clear hHM hHM1 hys HX HX2 hw hwi hcw
      go_upto_region 5 with fail
      obtain ⟨⟨k0, k1, k2, k3, k4, k5⟩, s0, s1, s2, s3⟩ := HS.out.cells
      obtain ⟨⟨z0, z1, z2, z3⟩, g0, g1, g2, g3⟩ := HS.out.zs
      generalize w1.alloc (.cells #[.int .i64 fr, .int .i64 f, .int .i64 t, .int .i64 lv, .int .i64 nn, .slice ba L bc] 28) = W4 at *
      go_wp2
      exact rjudge_end (set4_below _ (by omega) HS.out.2.2.2.2 _ _ _ _) (HS.out.2.2.2.1.set4 _ _ _ _) (Byts.nil _) rfl rfl
end Go.Proofs.Ytehgiagefiakkaa
