/- What both networks bear. -/
import Derived.Test.YtmflnbdajaiahaaF17
namespace Go.Proofs.Ytmflnbdajaiahaa
open Go.RowKit Go.Shelf
open Md
attribute [local go_sem] Oper.semAt_some

theorem results_cellF {P : Program} {w : World} {fn : Func} {tmps : Array Value} {ty : TypeId} {a : Tmp} (h : fn.results = #[.cell a ty]) (hf : Flat P ty) {p : Addr} (hp : tmps.getD a undef = .pointer (some p)) {v : Value} (hc : w.cell? p = some v) : (results fn tmps).run P w = .ok v w := by
  have hl : (loadVar ty p).run P w = .ok v w := by
    unfold loadVar
    rw [Sem.run_bind, run_isAgg_flat hf]
    simp [hc]
  have hp' : tmps[a]?.getD undef = .pointer (some p) := by simpa using hp
  unfold results
  simp [h, hp', asAddr, hl]
theorem each_any (a : Option Addr) (n c : Nat) (w : World) : Calls Try.prog 19 #[.slice a n c] w fun e w' => e = .returned (.func (.func 36) #[] #[.pointer (some ⟨w.heap.size, 0, none⟩)]) ∧ w.alloc (.cells #[.slice a n c] 26) = w' := by
  go_enter Try.func19, Try.ntmps19
  go_wp2
  go_ret
  exact ⟨rfl, rfl⟩
def runS : St → List Fa → Bool
  | _, [] => true
  | t, f :: l => if 6 < f.k then false else match nextS t f with
    | none => false
    | some t' => runS t' l
def busF (m : Me) (l : List Fa) : Bool := if okM m then runS ⟨-1, false, 0, 0⟩ (cleanF m l) else false
def goS (o : Option St) (x : FaB) : Option St := o.bind fun t => if 6 < x.f.k then none else nextS t x.f
theorem fold_none : ∀ S : List FaB, S.foldl goS none = none
  | [] => rfl
  | _ :: S => fold_none S
theorem runS_fold : ∀ (S : List FaB) (t : St), runS t (S.map FaB.f) = (S.foldl goS (some t)).isSome
  | [], t => rfl
  | x :: S, t => by
    rw [List.map_cons, List.foldl_cons]
    unfold runS
    by_cases h : 6 < x.f.k
    · rw [if_pos h, show goS (some t) x = none from if_pos h, fold_none]; rfl
    · rw [if_neg h, show goS (some t) x = nextS t x.f from if_neg h]
      cases hn : nextS t x.f with
      | none => rw [fold_none]; rfl
      | some t' => exact runS_fold S t'
theorem next_since {t t' : St} {f : Fa} (h : nextS t f = some t') (hr : 0 ≤ f.r ∧ f.r < 16) (hs : 0 ≤ t.since ∧ t.since < 16) : 0 ≤ t'.since ∧ t'.since < 16 := by
  unfold nextS at h
  repeat' split at h
  all_goals first | (cases h; first | exact hs | exact hr | (refine ⟨?_, ?_⟩ <;> simp)) | cases h
/-- Between two rounds: the state behind what came. -/
def BI (w : World) (q : Nat) (pre : List FaB) (W : World) : Prop :=
  Below w.heap.size w W ∧ Blk W (w.heap.size + 1) 4 #[.bool false] ∧ Blk W (q + 1) 40 #[.pointer (some ⟨q, 0, none⟩)] ∧ ∃ t, pre.foldl goS (some ⟨-1, false, 0, 0⟩) = some t ∧ Blk W q 42 (encS t).toArray ∧ 0 ≤ t.since ∧ t.since < 16
def BX (w : World) (c : Code) (pre : List FaB) (W : World) : Prop :=
  c = .ret ∧ Below w.heap.size w W ∧ Blk W (w.heap.size + 1) 4 #[.bool false] ∧ pre.foldl goS (some ⟨-1, false, 0, 0⟩) = none
theorem BI.own (w : World) (q B : Nat) (hB : w.heap.size ≤ B) : OwnFrom B (BI w q) := fun s A A' row hs hg hr => by
  obtain ⟨h1, h2, h3, t, h4, h5, h6⟩ := hs
  exact ⟨h1.grown hg h1.size (fun k e => Nat.le_trans hB (hr k e).1), Blk.own _ _ _ () A A' row h2 hg (fun r e => (hr r e).2), Blk.own _ _ _ () A A' row h3 hg (fun r e => (hr r e).2), t, h4, Blk.own _ _ _ () A A' row h5 hg (fun r e => (hr r e).2), h6⟩
theorem BX.own (w : World) (B : Nat) (hB : w.heap.size ≤ B) (c : Code) : OwnFrom B (BX w c) := fun s A A' row hs hg hr => by
  obtain ⟨h0, h1, h2, h3⟩ := hs
  exact ⟨h0, h1.grown hg h1.size (fun k e => Nat.le_trans hB (hr k e).1), Blk.own _ _ _ () A A' row h2 hg (fun r e => (hr r e).2), h3⟩
theorem keeps_q {W W' : World} {q : Nat} {t : TypeId} {cs : Array Value} (hq : Blk W q t cs) (hg : W.grownBy W' (some q)) : KeepsOthers W W' :=
  KeepsOthers.of_grownBy hg (fun j o e ho => by cases e; rw [show W.heap[q]? = _ from hq] at ho; cases ho; rfl)
theorem kt_q {W W' : World} {q n₀ : Nat} {x y : Int} {k k' : IntKind} (hn : n₀ ≤ q) (hz : n₀ ≤ W.heap.size) (hq : W.cell? ⟨q, 0, none⟩ = some (.int k x)) (hq' : W'.cell? ⟨q, 0, none⟩ = some (.int k' y)) (hg : W.grownBy W' (some q)) : KT n₀ q W W' :=
  ⟨(Below.refl n₀ W).grown hg hz (fun j e => by cases e; exact hn), fun j o v hj _ hne _ _ => (hg.block j (Array.getElem?_eq_some_iff.1 hj).1 (fun e => hne (by cases e; rfl))).trans hj, fun v hv => by
    rw [hq] at hv
    cases hv
    exact ⟨_, hq', .inl rfl⟩⟩
theorem bus_end {w W : World} {D : Nat} {m : Me} {l : List Fa} {b : Bool} {a0 : Act} (hD : w.heap.size ≤ D) (hK : W.heap[D]? = some (.deferred (some []))) (hr : Blk W (w.heap.size + 1) 4 #[.bool b]) (hb : Below w.heap.size w W) (hbb : b = busF m l)
    (ht : a0.tmps.getD 4 undef = .pointer (some ⟨w.heap.size + 1, 0, none⟩)) (hd : a0.defers = [{ target := .collected D, args := #[] }]) :
    bodyPostM Fence.wide 3 Try.prog Try.f8 (fun e w' => e = .returned (.bool (busF m l)) ∧ Below w.heap.size w w') Exit.ret a0 W := by
  obtain ⟨tmps, df⟩ := a0
  simp only at ht hd
  subst hd hbb
  refine ⟨by simp, .inl ⟨_, _, rfl, run_takeDeferred hK, ?_⟩⟩
  have hB := belowK_b (w := w) (Nat.le_refl _) W D _ (.deferred none) hD hK rfl rfl
  have hgr := grownBy_putObj' W D (.deferred none)
  have hqD : w.heap.size + 1 ≠ D := fun e => by
    subst e
    rw [show W.heap[w.heap.size + 1]? = _ from hr] at hK
    cases hK
  exact ⟨_, results_cellF rfl F4 ht ((hr.kept hgr (by simpa using hqD)).cell 0), rfl, hb.trans hB⟩
set_option maxRecDepth 100000 in
set_option maxHeartbeats 1600000 in
theorem bus_any (m : Me) (v : Value) (l : List Fa) (w : World) (hm : GoodMe w m) (hv : Rd encF 7 w v l) (hl : l.length ≤ 8192) :
    Calls Try.prog 8 #[mev m, v] w fun e w' => e = .returned (.bool (busF m l)) ∧ Below w.heap.size w w' := by
  have HV := Lib.hid hv
  have HG := Lib.hid hm
  have HLL := Lib.hid hl
  have HB0 := Lib.hid (below2 w (.cells (encMe m).toArray 25) (.cells #[.bool false] 4))
  have HM0 : Hid (Blk ((w.alloc (.cells (encMe m).toArray 25)).alloc (.cells #[.bool false] 4)) w.heap.size 25 (encMe m).toArray) := (Blk.new' rfl : Blk _ _ _ _).alloc _
  have HR0 : Hid (Blk ((w.alloc (.cells (encMe m).toArray 25)).alloc (.cells #[.bool false] 4)) (w.heap.size + 1) 4 #[.bool false]) := Blk.new' (by simp)
  clear hv hm hl
  change Calls Try.prog 8 #[.agg (encMe m).toArray, v] w _
  refine (callsIn_wide (n := 3)).1 ?_
  refine callsIn_of_wp_marks Try.func8 rfl trivial ?_ rfl
  refine wpIn_wide.2 ?_
  simp only [Try.ntmps8, List.size_toArray, List.length_cons, List.length_nil, Nat.reduceAdd, Nat.reduceSub, Array.replicate_succ, Array.replicate_zero, List.push_toArray, List.append_toArray, List.nil_append, List.cons_append]
  go_upto_region 1 with fail
  change Code.wp _ _ _ _ ((w.alloc (.cells (encMe m).toArray 25)).alloc (.cells #[.bool false] 4))
  generalize (w.alloc (.cells (encMe m).toArray 25)).alloc (.cells #[.bool false] 4) = W0 at *
  go_wp2_with ((with_reducible show wpList _ _ _ (Oper.mk (some 7) _ _ _ _ _ :: _) _ _); refine wpList_loadW W25 rfl rfl rfl (encMe m) rfl HM0.out.list ?_)
  refine (mcheck_any m W0 (HG.out.below HB0.out)).mono ?_
  rintro e W1 ⟨rfl, hb1⟩
  have HB1 := Lib.hid (HB0.out.trans (hb1.mono HB0.out.size))
  have HM1 := Lib.hid (HM0.out.keep hb1)
  have HR1 := Lib.hid (HR0.out.keep hb1)
  clear hb1 HM0 HB0 HR0
  by_cases hok : okM m = true
  · have HBUS : Hid (busF m l = runS ⟨-1, false, 0, 0⟩ (cleanF m l)) := if_pos hok
    rw [show errM m = 0 from if_pos hok]
    clear hok
    go_upto_region 4 with fail
    change Code.wp _ _ _ _ ((W1.alloc (.cells (encS ⟨-1, false, 0, 0⟩).toArray 42)).alloc (.cells #[.pointer (some ⟨W1.heap.size, 0, none⟩)] 40))
    have h2 := below2 W1 (.cells (encS ⟨-1, false, 0, 0⟩).toArray 42) (.cells #[.pointer (some ⟨W1.heap.size, 0, none⟩)] 40)
    have HQ2 : Hid (Blk ((W1.alloc (.cells (encS ⟨-1, false, 0, 0⟩).toArray 42)).alloc (.cells #[.pointer (some ⟨W1.heap.size, 0, none⟩)] 40)) W1.heap.size 42 (encS ⟨-1, false, 0, 0⟩).toArray) := (Blk.new' rfl : Blk _ _ _ _).alloc _
    have HP2 : Hid (Blk ((W1.alloc (.cells (encS ⟨-1, false, 0, 0⟩).toArray 42)).alloc (.cells #[.pointer (some ⟨W1.heap.size, 0, none⟩)] 40)) (W1.heap.size + 1) 40 #[.pointer (some ⟨W1.heap.size, 0, none⟩)]) := Blk.new' (by simp)
    have HB2 := Lib.hid (HB1.out.trans (h2.mono HB1.out.size))
    have HM2 := Lib.hid (HM1.out.keep h2)
    have HR2 := Lib.hid (HR1.out.keep h2)
    have hq0 : w.heap.size + 1 < W1.heap.size := HR1.out.lt
    clear h2 HB1 HM1 HR1
    generalize (W1.alloc (.cells (encS ⟨-1, false, 0, 0⟩).toArray 42)).alloc (.cells #[.pointer (some ⟨W1.heap.size, 0, none⟩)] 40) = W2 at *
    generalize W1.heap.size = q at *
    go_wp2_with ((with_reducible show wpList _ _ _ (Oper.mk (some 12) _ _ _ _ _ :: _) _ _); refine wpList_loadW W25 rfl rfl rfl (encMe m) rfl HM2.out.list ?_)
    refine (clean_any m v l W2 (HG.out.below HB2.out) (HV.out.below HB2.out) HLL.out).mono ?_
    rintro e W3 ⟨⟨v1, rfl, ho⟩, hb3⟩
    have HMAY : Hid (∀ x ∈ cleanF m l, 0 ≤ x.r ∧ x.r < 16) := fun x hx => by have := mayF_bd (clean_may hx); exact ⟨this.1, this.2.1⟩
    have HCLN : Hid ((cleanF m l).length ≤ l.length) := by
      show _ ≤ _
      rw [cleanF_pm]
      have h1 := fold_len (l.filter (pm m)) []
      have h2 := List.length_filter_le (pm m) l
      simp only [List.length_nil, Nat.add_zero] at h1
      omega
    obtain ⟨S, hS1, hS2, hS3⟩ := with_bounds _ HMAY.out
    rw [← hS2, ← hS3] at ho
    rw [← hS1] at HBUS
    have HSL : Hid (S.length ≤ 8192) := by show _ ≤ _; rw [hS2]; exact Nat.le_trans HCLN.out HLL.out
    have hq2 : q < W2.heap.size := HQ2.out.lt
    have hz3 : W2.heap.size ≤ W3.heap.size := hb3.size
    have HB3 := Lib.hid (HB2.out.trans (hb3.mono HB2.out.size))
    have HQ3 := Lib.hid (HQ2.out.keep hb3)
    have HP3 := Lib.hid (HP2.out.keep hb3)
    have HR3 := Lib.hid (HR2.out.keep hb3)
    have HO3 := Lib.hid ho
    obtain ⟨va, vc, rfl, -⟩ := owns_shape ho
    clear ho hb3 hS1 hS2 hS3 HMAY HCLN HQ2 HP2 HR2 HB2 HM2 HV HG HLL
    go_wp2_with fail
    refine (each_any va S.length vc W3).mono ?_
    rintro e W4 ⟨rfl, hw4⟩
    have h4 : Below W3.heap.size W3 W4 := by rw [← hw4]; exact below1 _ _
    have X4 : Hid (Blk W4 W3.heap.size 26 #[.slice va S.length vc]) := by rw [← hw4]; exact Blk.new' rfl
    have HB4 := Lib.hid (HB3.out.trans (h4.mono HB3.out.size))
    have HQ4 := Lib.hid (HQ3.out.keep h4)
    have HP4 := Lib.hid (HP3.out.keep h4)
    have HR4 := Lib.hid (HR3.out.keep h4)
    have HO4 := Lib.hid (ow_below HO3.out h4)
    have hz4 : W3.heap.size < W4.heap.size := X4.out.lt
    clear hw4 h4 HB3 HQ3 HP3 HR3 HO3
    go_wp2_with fail
    have h0 : BI w q [] W4 := ⟨HB4.out, HR4.out, HP4.out, _, rfl, HQ4.out, by decide, by decide⟩
    have hzw : w.heap.size ≤ W4.heap.size := HB4.out.size
    refine (wpIn_wide (n := 3)).1 ?_
    refine wpIn_rangeFunc_ownH rfl (by omega) (gf := 36) (lb := #[.pointer (some ⟨W3.heap.size, 0, none⟩)]) rfl trivial (enters_of Try.func36 (by kernel_rfl) rfl) (encs := encQ) (S := fun xs => xs = S) (Sp := fun pre => pre <+: S) (N := S.length) (w0 := W4)
      (fun y J Jx W5 hW hJ _ hY h0 => each1_in 2 (by omega) y W3.heap.size q q W2.heap.size (.slice va S.length vc) S J Jx W5 hJ hY (keepCell hW (X4.out.cell 0)) (ow_below HO4.out hW) hq2 (by have := HSL.out; omega)
        ⟨_, keepCell hW (HQ4.out.cell 0), fun g e e' => by simp [encS, Value.ownBlock] at e'⟩ h0)
      (fun h k => KT.trans h k) (KT.put (by have := HQ4.out.lt; omega)) (Below.refl _ _) (fun _ => rfl)
      (BI w q) (BX w) (BI.own w q _ hzw) (BX.own w _ hzw) h0
      (fun x a' W => ∃ be, a' = { tmps := #[.agg (encMe m).toArray, v, .pointer (some ⟨w.heap.size, 0, none⟩), undef, .pointer (some ⟨w.heap.size + 1, 0, none⟩), .pointer (some ⟨q + 1, 0, none⟩), .pointer (some ⟨be, 0, none⟩), .agg (encMe m).toArray, .int .i64 0, .bool false, .agg #[.int .i64 (-1), .bool false, .int .i64 0, .int .i64 0], .pointer (some ⟨q, 0, none⟩), .agg (encMe m).toArray, v, .slice va S.length vc, .func (.func 36) #[] #[.pointer (some ⟨W3.heap.size, 0, none⟩)], .agg (encFB x).toArray, undef, undef, undef, undef, undef, undef, undef, undef, undef], defers := [] } ∧ Blk W be 33 (encFB x).toArray)
      (fun x a' s A B row hs hg hr => by obtain ⟨be, h1, h2⟩ := hs; exact ⟨be, h1, Blk.own _ _ _ s A B row h2 hg (fun r e => (hr r e).2)⟩)
      ?assign ?body ?done ?stop
    case assign =>
      rintro y pre x W K hI hK
      unfold encQ
      gi_wp2_with (refine wpListIn_storeW W33 rfl rfl rfl (encFB x) rfl rfl (encF_one x.f) rfl ?_)
      exact hK _ _ ((KeepsOthers.alloc _ _).from _) (KT.of_below (below1 _ _) (by obtain ⟨t, -, h, -⟩ := hI.2.2.2; exact Nat.le_of_lt h.lt)) (BI.own w q W4.heap.size hzw _ _ _ none hI (World.grownBy_alloc _ _ _) (by intro r h; cases h)) ⟨W.heap.size, rfl, Blk.new' rfl⟩
    case body =>
      rintro y pre x a' W hl hr ⟨h1, h2, h3, t, h4, h5, h6⟩ ⟨be, rfl, DX⟩ hlt
      clear hl hr hlt
      have H1 := Lib.hid h1
      have H2 := Lib.hid h2
      have H3 := Lib.hid h3
      have H4 := Lib.hid h4
      have H5 := Lib.hid h5
      have H6 := Lib.hid h6
      have HDX := Lib.hid DX
      have ck : W.cell? ⟨be, 0, none⟩ = some (.int .i64 x.f.k) := DX.list0 rfl
      have c4 : W.cell? ⟨w.heap.size + 1, 0, none⟩ = some (.bool false) := h2.one
      have f4 : W.frozen? ⟨w.heap.size + 1, 0, none⟩ = false := h2.frozen 0
      have cp : W.cell? ⟨q + 1, 0, none⟩ = some (.pointer (some ⟨q, 0, none⟩)) := h3.one
      clear h1 h2 h3 h4 h5 h6 DX
      by_cases h6k : 6 < x.f.k
      · have d6 : decide (6 < x.f.k) = true := decide_eq_true h6k
        have HN : Hid ((pre ++ [x]).foldl goS (some ⟨-1, false, 0, 0⟩) = none) := by show _ = _; rw [List.foldl_append, H4.out]; exact if_pos h6k
        clear h6k
        gi_wp2_with (refine ⟨trivial, ?_⟩)
        exact ⟨(KeepsOthers.setCell _ _ _).from _, rfl, H1.out.setCell (by simp) _, (by have h := H2.out.set 0 (.bool false); simpa using h), HN.out⟩
      · have d6 : decide (6 < x.f.k) = false := decide_eq_false h6k
        have HG0 : Hid (goS (some t) x = nextS t x.f) := if_neg h6k
        clear h6k c4 f4
        gi_wp2_with ((with_reducible show wpListIn _ _ _ _ _ (Oper.mk (some 22) _ _ _ _ _ :: _) _ _); refine wpListIn_loadW W33 rfl rfl rfl (encFB x) rfl HDX.out.list ?_)
        refine ⟨trivial, ?_⟩
        refine (callsIn_wide.2 (next_any q t x.f W H5.out x.bd H6.out)).mono ?_
        rintro e W5 (⟨hn, rfl, hb⟩ | ⟨t', hn, rfl, hq', hg⟩)
        · have HN : Hid ((pre ++ [x]).foldl goS (some ⟨-1, false, 0, 0⟩) = none) := by show _ = _; rw [List.foldl_append, H4.out]; exact HG0.out.trans hn
          have H2' := Lib.hid (H2.out.keep hb)
          have HB5 := Lib.hid (H1.out.trans (hb.mono H1.out.size))
          have HK5 : Hid (KeepsOthers W W5) := KeepsOthers.of_grownBy (grow_none (row := none) hb) (fun j o e => by cases e)
          have c4 : W5.cell? ⟨w.heap.size + 1, 0, none⟩ = some (.bool false) := H2'.out.one
          have f4 : W5.frozen? ⟨w.heap.size + 1, 0, none⟩ = false := H2'.out.frozen 0
          clear hn hb
          gi_wp2
          exact ⟨(HK5.out.trans (KeepsOthers.setCell _ _ _)).from _, rfl, HB5.out.setCell (by simp) _, (by have h := H2'.out.set 0 (.bool false); simpa using h), HN.out⟩
        · have HI : Hid (BI w q (pre ++ [x]) W5) := by
            refine ⟨H1.out.grown hg H1.out.size (fun k e => by cases e; omega), H2.out.kept hg (fun e => by simp at e; omega), H3.out.kept hg (by simp), t', ?_, hq', next_since hn x.bd H6.out⟩
            rw [List.foldl_append, H4.out]
            exact HG0.out.trans hn
          have HKT : Hid (KT q q W W5) := kt_q (Nat.le_refl _) (Nat.le_of_lt H5.out.lt) (H5.out.list0 (j := 0) rfl) (hq'.list0 (j := 0) rfl) hg
          have HKF := Lib.hid ((keeps_q H5.out hg).from W4.heap.size)
          clear hn hq' hg
          gi_wp2
          exact ⟨HKF.out, HKT.out, HI.out⟩
    case stop =>
      rintro D c pre W hD hp ⟨rfl, h1, h2, h3⟩ hK
      have hE : false = busF m l := by
        rw [HBUS.out, runS_fold]
        obtain ⟨s', rfl⟩ := hp
        rw [List.foldl_append, h3, fold_none]
        rfl
      have HE := Lib.hid (fun a0 : Act => bus_end (a0 := a0) (by omega : w.heap.size ≤ D) hK h2 h1 hE)
      clear h1 h2 h3 hK hp hE
      refine wpIn_wide.2 ?_
      go_wp2
      exact HE.out _ rfl rfl
    case done =>
      rintro D ys W hD hys ⟨h1, h2, h3, t, h4, h5, h6⟩ hK
      have hE : true = busF m l := by rw [HBUS.out, runS_fold, ← hys, h4]; rfl
      have c4 : W.cell? ⟨w.heap.size + 1, 0, none⟩ = some (.bool false) := h2.one
      have f4 : W.frozen? ⟨w.heap.size + 1, 0, none⟩ = false := h2.frozen 0
      have hne : w.heap.size + 1 ≠ D := fun e => by subst e; rw [show W.heap[w.heap.size + 1]? = _ from h2] at hK; cases hK
      have HE := Lib.hid (fun a0 : Act => bus_end (a0 := a0) (W := W.setCell ⟨w.heap.size + 1, 0, none⟩ (.bool true)) (by omega : w.heap.size ≤ D) ((Below.heap_setCell _ _ _ _ (Ne.symm hne)).trans hK) (by have h := h2.set 0 (.bool true); simpa using h) (h1.setCell (by simp) _) hE)
      clear h1 h2 h3 h4 h5 h6 hK hE hys
      go_wp2
      exact HE.out _ rfl rfl
  · have HE : Hid (false = busF m l) := (if_neg hok).symm
    rw [show errM m = 70 from if_neg hok]
    clear hok
    have c4 : W1.cell? ⟨w.heap.size + 1, 0, none⟩ = some (.bool false) := HR1.out.one
    have f4 : W1.frozen? ⟨w.heap.size + 1, 0, none⟩ = false := HR1.out.frozen 0
    have c5 : (W1.setCell ⟨w.heap.size + 1, 0, none⟩ (.bool false)).cell? ⟨w.heap.size + 1, 0, none⟩ = some (.bool false) := by have h := (HR1.out.set 0 (.bool false)).cell 0; simpa using h
    have HBF : Hid (Below w.heap.size w (W1.setCell ⟨w.heap.size + 1, 0, none⟩ (.bool false))) := HB1.out.setCell (by simp) _
    go_wp2
    exact ⟨_, results_cellF rfl F4 rfl c5, by rw [HE.out], HBF.out⟩
end Go.Proofs.Ytmflnbdajaiahaa
