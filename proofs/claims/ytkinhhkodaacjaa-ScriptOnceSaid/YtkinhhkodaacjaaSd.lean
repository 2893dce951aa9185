/- The order of a host's operations; the library's stable sort at them. -/
import Derived.Test.YtkinhhkodaacjaaSh
import Derived.Test.YtkinhhkodaacjaaSortK
import Derived.Test.YtkinhhkodaacjaaP1
import Derived.Test.YtkinhhkodaacjaaT2
namespace Go.Proofs.Ytkinhhkodaacjaa
open Go.RowKit Go.Shelf Go.Sort

theorem exec_slice3c {w : World} {o : Oper} {ac : Act} {x0 x1 x2 : Operand} {p0 p1 p2 : Int} (ho : o.op = .buildSlice 26 3 #[(0, x0), (1, x1), (2, x2)]) (h0 : ac.eval x0 = .int .i64 p0) (h1 : ac.eval x1 = .int .i64 p1) (h2 : ac.eval x2 = .int .i64 p2) :
    (execOp ac.eval o).run Try.prog w = .ok (.value (.slice (some ⟨w.heap.size, 0, none⟩) 3 3)) (w.alloc (.cells #[.int .i64 p0, .int .i64 p1, .int .i64 p2] 3)) := by
  have hrun : (Instr.buildSlice 26 3 #[(0, .int .i64 p0), (1, .int .i64 p1), (2, .int .i64 p2)]).run Try.prog w = .ok (.slice (some ⟨w.heap.size, 0, none⟩) 3 3) (w.alloc (.cells #[.int .i64 p0, .int .i64 p1, .int .i64 p2] 3)) := by
    unfold Instr.buildSlice
    go_simp
  simp [execOp, ho, h0, h1, h2, hrun, Result.andThen]
theorem row3c {w : World} {b : Nat} (hb : w.heap.size = b) (p0 p1 p2 : Int) : Rd (encI .i64) 1 (w.alloc (.cells #[.int .i64 p0, .int .i64 p1, .int .i64 p2] 3)) (.slice (some ⟨b, 0, none⟩) 3 3) [p0, p1, p2] := by
  subst hb
  refine ⟨_, _, rfl, by simp, by simp, by simp, by simp, .inr ⟨_, 0, rfl, by simp, ?_⟩⟩
  intro j x hx i u hu
  have hj : j < 3 := (List.getElem?_eq_some_iff.1 hx).1
  have hi : i = 0 := by have := (List.getElem?_eq_some_iff.1 hu).1; simp [encI] at this; exact this
  subst hi
  rw [World.cell?_alloc_at _ _ _ _ rfl]
  rcases j with _ | _ | _ | j <;> first | omega | (simp at hx; subst hx; simp [encI] at hu; subst hu; rfl)

def cmpH (x y : Ho) : Int := orL [cmpI x.r y.r, cmpI x.s y.s, cmpI x.n y.n]
set_option maxRecDepth 100000 in
set_option maxHeartbeats 1600000 in
theorem compareH_any (x y : Ho) (w : World) : Calls Try.prog 30 #[.agg (encH x).toArray, .agg (encH y).toArray] w fun e w' => e = .returned (.int .i64 (cmpH x y)) ∧ ∃ q os', w' = Sort.grow (w.drewN q) os' := by
  have HCI := Lib.hid compareI_any
  have HE : Hid (cmpH x y = orL [cmpI x.r y.r, cmpI x.s y.s, cmpI x.n y.n]) := rfl
  have hS : Hid (Blk (((w.alloc (.cells (encH x).toArray 43)).alloc (.cells (encH y).toArray 43)).drew) w.heap.size 43 (encH x).toArray) ∧ Hid (Blk (((w.alloc (.cells (encH x).toArray 43)).alloc (.cells (encH y).toArray 43)).drew) (w.heap.size + 1) 43 (encH y).toArray) :=
    ⟨(Blk.alloc (Blk.new' rfl) _ : Blk _ _ _ _), (Blk.new' (by simp) : Blk _ _ _ _)⟩
  go_enter Try.func30, Try.ntmps30
  go_upto_region 1 with fail
  change Code.wp _ _ _ _ ((w.alloc (.cells (encH x).toArray 43)).alloc (.cells (encH y).toArray 43))
  refine wp_region_held_drew (S := fun X => Hid (Blk X w.heap.size 43 (encH x).toArray) ∧ Hid (Blk X (w.heap.size + 1) 43 (encH y).toArray)) (by kernel_rfl) hS (fun hHeld => ?_)
  (refine takeW (i := 0) (v := ?_) rfl (by kernel_rfl) (by kernel_rfl) (by kernel_rfl) (fun _ _ _ h => h) (by rfl) (by assumption) ?_ ?_; rotate_left; (intro W hW; (try dsimp only at hW); go_simp; try with_reducible rfl); (try simp only [Act.put, List.setIfInBounds_toArray, List.set_cons_zero, List.set_cons_succ]))
  (refine takeW (i := 1) rfl (by kernel_rfl) (by kernel_rfl) (by kernel_rfl) (fun _ _ _ h => h) (by rfl) (by assumption) (fun W hW => exec_load1 (v := .int .i64 x.r) F3 rfl rfl (hW.1.out.list0 (j := 1) rfl)) ?_; (try simp only [Act.put, List.setIfInBounds_toArray, List.set_cons_zero, List.set_cons_succ]))
  (refine takeW (i := 2) (v := ?_) rfl (by kernel_rfl) (by kernel_rfl) (by kernel_rfl) (fun _ _ _ h => h) (by rfl) (by assumption) ?_ ?_; rotate_left; (intro W hW; (try dsimp only at hW); go_simp; try with_reducible rfl); (try simp only [Act.put, List.setIfInBounds_toArray, List.set_cons_zero, List.set_cons_succ]))
  (refine takeW (i := 3) rfl (by kernel_rfl) (by kernel_rfl) (by kernel_rfl) (fun _ _ _ h => h) (by rfl) (by assumption) (fun W hW => exec_load1 (v := .int .i64 y.r) F3 rfl rfl (hW.2.out.list0 (j := 1) rfl)) ?_; (try simp only [Act.put, List.setIfInBounds_toArray, List.set_cons_zero, List.set_cons_succ]))
  (refine takeW (i := 5) (v := ?_) rfl (by kernel_rfl) (by kernel_rfl) (by kernel_rfl) (fun _ _ _ h => h) (by rfl) (by assumption) ?_ ?_; rotate_left; (intro W hW; (try dsimp only at hW); go_simp; try with_reducible rfl); (try simp only [Act.put, List.setIfInBounds_toArray, List.set_cons_zero, List.set_cons_succ]))
  (refine takeW (i := 6) rfl (by kernel_rfl) (by kernel_rfl) (by kernel_rfl) (fun _ _ _ h => h) (by rfl) (by assumption) (fun W hW => exec_load1 (v := .int .i64 x.s) F3 rfl rfl (hW.1.out.list0 (j := 2) rfl)) ?_; (try simp only [Act.put, List.setIfInBounds_toArray, List.set_cons_zero, List.set_cons_succ]))
  (refine takeW (i := 7) (v := ?_) rfl (by kernel_rfl) (by kernel_rfl) (by kernel_rfl) (fun _ _ _ h => h) (by rfl) (by assumption) ?_ ?_; rotate_left; (intro W hW; (try dsimp only at hW); go_simp; try with_reducible rfl); (try simp only [Act.put, List.setIfInBounds_toArray, List.set_cons_zero, List.set_cons_succ]))
  (refine takeW (i := 8) rfl (by kernel_rfl) (by kernel_rfl) (by kernel_rfl) (fun _ _ _ h => h) (by rfl) (by assumption) (fun W hW => exec_load1 (v := .int .i64 y.s) F3 rfl rfl (hW.2.out.list0 (j := 2) rfl)) ?_; (try simp only [Act.put, List.setIfInBounds_toArray, List.set_cons_zero, List.set_cons_succ]))
  (refine takeW (i := 10) (v := ?_) rfl (by kernel_rfl) (by kernel_rfl) (by kernel_rfl) (fun _ _ _ h => h) (by rfl) (by assumption) ?_ ?_; rotate_left; (intro W hW; (try dsimp only at hW); go_simp; try with_reducible rfl); (try simp only [Act.put, List.setIfInBounds_toArray, List.set_cons_zero, List.set_cons_succ]))
  (refine takeW (i := 11) rfl (by kernel_rfl) (by kernel_rfl) (by kernel_rfl) (fun _ _ _ h => h) (by rfl) (by assumption) (fun W hW => exec_load1 (v := .int .i64 x.n) F3 rfl rfl (hW.1.out.list0 (j := 0) rfl)) ?_; (try simp only [Act.put, List.setIfInBounds_toArray, List.set_cons_zero, List.set_cons_succ]))
  (refine takeW (i := 12) (v := ?_) rfl (by kernel_rfl) (by kernel_rfl) (by kernel_rfl) (fun _ _ _ h => h) (by rfl) (by assumption) ?_ ?_; rotate_left; (intro W hW; (try dsimp only at hW); go_simp; try with_reducible rfl); (try simp only [Act.put, List.setIfInBounds_toArray, List.set_cons_zero, List.set_cons_succ]))
  (refine takeW (i := 13) rfl (by kernel_rfl) (by kernel_rfl) (by kernel_rfl) (fun _ _ _ h => h) (by rfl) (by assumption) (fun W hW => exec_load1 (v := .int .i64 y.n) F3 rfl rfl (hW.2.out.list0 (j := 0) rfl)) ?_; (try simp only [Act.put, List.setIfInBounds_toArray, List.set_cons_zero, List.set_cons_succ]))
  refine takeC (i := 4) rfl (by kernel_rfl) (by rfl) (fun K hK => ?_)
  go_simp
  refine (HCI.out _ _ _).mono ?_
  rintro e w' ⟨rfl, rfl⟩
  refine hK.out _ _ hHeld (fun hHeld => ?_)
  clear hK K
  try simp only [Act.put, List.setIfInBounds_toArray, List.set_cons_zero, List.set_cons_succ]
  refine takeC (i := 9) rfl (by kernel_rfl) (by rfl) (fun K hK => ?_)
  go_simp
  refine (HCI.out _ _ _).mono ?_
  rintro e w' ⟨rfl, rfl⟩
  refine hK.out _ _ hHeld (fun hHeld => ?_)
  clear hK K
  try simp only [Act.put, List.setIfInBounds_toArray, List.set_cons_zero, List.set_cons_succ]
  refine takeC (i := 14) rfl (by kernel_rfl) (by rfl) (fun K hK => ?_)
  go_simp
  refine (HCI.out _ _ _).mono ?_
  rintro e w' ⟨rfl, rfl⟩
  refine hK.out _ _ hHeld (fun hHeld => ?_)
  clear hK K
  try simp only [Act.put, List.setIfInBounds_toArray, List.set_cons_zero, List.set_cons_succ]
  refine takeV (i := 15) rfl (by kernel_rfl) (by rfl) (exec_slice3c rfl rfl rfl rfl) (⟨Lib.hid (hHeld.1.out.alloc _), Lib.hid (hHeld.2.out.alloc _)⟩) ?_
  (try simp only [Act.put, List.setIfInBounds_toArray, List.set_cons_zero, List.set_cons_succ])
  have hHeld : Hid (Blk (((w.alloc (.cells (encH x).toArray 43)).alloc (.cells (encH y).toArray 43)).drew.alloc (.cells #[.int .i64 (cmpI x.r y.r), .int .i64 (cmpI x.s y.s), .int .i64 (cmpI x.n y.n)] 3)) w.heap.size 43 (encH x).toArray) ∧ Hid (Blk (((w.alloc (.cells (encH x).toArray 43)).alloc (.cells (encH y).toArray 43)).drew.alloc (.cells #[.int .i64 (cmpI x.r y.r), .int .i64 (cmpI x.s y.s), .int .i64 (cmpI x.n y.n)] 3)) (w.heap.size + 1) 43 (encH y).toArray) := ⟨Lib.hid (hHeld.1.out.alloc _), Lib.hid (hHeld.2.out.alloc _)⟩
  refine takeC (i := 16) rfl (by kernel_rfl) (by rfl) (fun K hK => ?_)
  go_simp
  refine (or_any _ _ _ (row3c (w := ((w.alloc (.cells (encH x).toArray 43)).alloc (.cells (encH y).toArray 43)).drew) (by simp) _ _ _)).mono ?_
  rintro e w' ⟨rfl, rfl⟩
  rw [← HE.out]
  refine hK.out _ _ hHeld (fun hHeld => ?_)
  clear hK K
  try simp only [Act.put, List.setIfInBounds_toArray, List.set_cons_zero, List.set_cons_succ]
  (refine takeW (i := 17) (v := ?_) rfl (by kernel_rfl) (by kernel_rfl) (by kernel_rfl) (fun _ _ _ h => h) (by rfl) (by assumption) ?_ ?_; rotate_left; (intro W hW; (try dsimp only at hW); go_simp; try with_reducible rfl); (try simp only [Act.put, List.setIfInBounds_toArray, List.set_cons_zero, List.set_cons_succ]))
  refine wpAnyH_done (by kernel_rfl) ?_ _
  go_wp2
  go_ret
  exact ⟨rfl, 1, _, by rw [Sort.alloc_eq_grow, Sort.alloc_eq_grow, Sort.alloc_eq_grow, Sort.drew_grow, Sort.drew_grow, Sort.grow_grow, Sort.grow_grow]; rfl⟩

def keyH (x : Ho) : List Int := [x.r, x.s, x.n]
theorem cmpH_lex (x y : Ho) : cmpH x y = lexC (keyH x) (keyH y) := by
  unfold cmpH keyH
  simp only [orL_lex, lexC]
  rfl
theorem cmpH_self (x : Ho) : cmpH x x = 0 := by rw [cmpH_lex]; exact lexC_self _
theorem cmpH_swap (x y : Ho) : cmpH y x = - cmpH x y := by rw [cmpH_lex, cmpH_lex]; exact lexC_swap _ _
theorem cmpH_lt {x y z : Ho} (h : cmpH x y < 0) (h' : cmpH y z ≤ 0) : cmpH x z < 0 := by rw [cmpH_lex] at h h' ⊢; exact lexC_lt (ys := keyH y) rfl rfl h h'
theorem cmpH_le {x y z : Ho} (h : cmpH x y ≤ 0) (h' : cmpH y z ≤ 0) : cmpH x z ≤ 0 := by rw [cmpH_lex] at h h' ⊢; exact lexC_le (ys := keyH y) rfl rfl h h'
theorem ltOfH (x y : Ho) : ltOf cmpH x y = decide (cmpH x y < 0) := rfl
theorem swoH : Sort.SWO (ltOf cmpH) where
  irrefl x := by rw [ltOfH, cmpH_self]; rfl
  trans x y z h1 h2 := by rw [ltOfH, decide_eq_true_eq] at *; exact cmpH_lt h1 (by omega)
  ntrans x y z h1 h2 := by
    rw [ltOfH, decide_eq_false_iff_not] at *
    have e1 := cmpH_swap x y
    have e2 := cmpH_swap y z
    have e3 := cmpH_swap x z
    have := @cmpH_le z y x (by omega) (by omega)
    omega
instance : Inhabited Ho := ⟨⟨0, 0, 0, 0, 0, none, 0, []⟩⟩
def insH_ren : Go.Shelf.Ren := ⟨fun | 20 => 85 | n => n, fun | 22 => 27 | 24 => 43 | 25 => 69 | n => n, fun | n => n⟩
theorem insH : Go.Proofs.SlLaysF0.n20 Try.prog insH_ren := {
  mixed := by kernel_rfl
  f20 := ⟨Try.f85.name, by decide, Try.func85.trans (congrArg some (by kernel_rfl))⟩
  t0 := Try.underlying0
  a0 := Try.isAgg0
  z0 := Try.sizeOf0
  v0 := Try.zeroValue0
  t3 := Try.underlying3
  a3 := Try.isAgg3
  z3 := Try.sizeOf3
  v3 := Try.zeroValue3
  t4 := Try.underlying4
  a4 := Try.isAgg4
  z4 := Try.sizeOf4
  v4 := Try.zeroValue4
  t22 := Try.underlying27
  a22 := Try.isAgg27
  z22 := Try.sizeOf27
  v22 := Try.zeroValue27
  t25 := Try.underlying69
  a25 := Try.isAgg69
  z25 := Try.sizeOf69
  v25 := Try.zeroValue69 }
theorem srtH : Srt Try.prog 6 := {
  mixed := by kernel_rfl
  f109 := Try.func109
  f100 := Try.func100
  f85 := Try.func85
  f86 := Try.func86
  f63 := Try.func63
  t0 := Try.underlying0
  a0 := Try.isAgg0
  z0 := Try.sizeOf0
  v0 := Try.zeroValue0
  t3 := Try.underlying3
  a3 := Try.isAgg3
  z3 := Try.sizeOf3
  v3 := Try.zeroValue3
  t4 := Try.underlying4
  a4 := Try.isAgg4
  z4 := Try.sizeOf4
  v4 := Try.zeroValue4
  t99 := Try.underlying99
  a99 := Try.isAgg99
  z99 := Try.sizeOf99
  v99 := Try.zeroValue99
  t27 := Try.underlying27
  a27 := Try.isAgg27
  z27 := Try.sizeOf27
  v27 := Try.zeroValue27
  t69 := Try.underlying69
  a69 := Try.isAgg69
  z69 := Try.sizeOf69
  v69 := Try.zeroValue69
  aE := Try.isAgg43
  zE := Try.sizeOf43 }
/-- No later one comes ahead of an earlier one. -/
def UpH (l : List Ho) : Prop := l.Pairwise fun a b => ltOf cmpH b a = false
theorem upH_of (d : Array Ho) (n : Nat) (hn : n = d.size) : SortedIn (ltOf cmpH) 0 n d ↔ UpH d.toList := by
  unfold UpH
  rw [List.pairwise_iff_getElem]
  constructor
  · intro h i j hi hj hij
    have hi' : i < d.size := by simpa using hi
    have hj' : j < d.size := by simpa using hj
    have := h i j (Nat.zero_le _) hij (by omega)
    rw [getElem!_pos d j hj', getElem!_pos d i hi'] at this
    simpa using this
  · intro h i j _ hij hj
    have hj' : j < d.size := by omega
    have hi' : i < d.size := by omega
    have := h i j (by simpa using hi') (by simpa using hj') hij
    rw [getElem!_pos d j hj', getElem!_pos d i hi']
    simpa using this
set_option maxRecDepth 100000 in
set_option maxHeartbeats 1600000 in
theorem stableCmp_any (l : List Ho) (gb cap : Nat) (w : World) (hH : HoldsK encH 6 w gb 0 l.toArray) (hb : gb < w.heap.size) (hl : l.length ≤ 300) :
    Calls Try.prog 63 #[.slice (some ⟨gb, 0, none⟩) l.length cap, .int .i64 l.length, .func (.func 30) #[] #[]] w fun e w' =>
      e = .returned (.tuple #[]) ∧ ∃ m : List Ho, m.Perm l ∧ UpH m ∧ (UpH l → m = l) ∧ SWK encH 6 w gb 0 m.toArray w' := by
  have R : RowK encH 6 w gb 0 l.toArray := ⟨encH_len, encH_one, hH, hb⟩
  have hc : CmpLays Try.prog 30 #[] encH 6 cmpH gb 0 l.toArray.size w := fun m os dk _ x y => compareH_any x y _
  have eg : ∀ args w, (callFunc 30 args).run Try.prog w = .ok (.enter 30 args) w := enters_of Try.func30 (by kernel_rfl) rfl
  have hsz : l.toArray.size = l.length := by simp
  have := stable_w srtH encH cmpH 30 #[] gb 0 cap swoH l.toArray w eg hc R (by omega) (fun a b d W hs S hab hbd =>
    AnyQ.insertionSortCmpFunc_w insH 6 Try.isAgg43 Try.sizeOf43 encH cmpH 30 #[] gb 0 cap a b l.toArray d w W eg hc R hs S swoH hab hbd (by omega))
  rw [hsz] at this
  refine this.mono ?_
  rintro e w' ⟨he, d', hp, hs, hst, hw⟩
  obtain ⟨hz, _, hperm⟩ := hp
  have hd : d'.size = l.length := by simpa using hz
  have e1 : d'.extract 0 l.length = d' := by rw [← hd]; simp
  have e2 : l.toArray.extract 0 l.length = l.toArray := by simp
  rw [e1, e2] at hperm
  refine ⟨he, d'.toList, by simpa using hperm, (upH_of d' _ hd.symm).1 hs, fun hu => ?_, by simpa using hw⟩
  have := hst ((upH_of l.toArray _ hsz.symm).2 (by simpa using hu))
  rw [this]
theorem grownBy_putId {w : World} {g n : Nat} {os : Array Obj} (d : Array Value) : w.grownBy (grow (putRow id (Sort.ahead w n) g 0 d) os) (some g) := by
  refine ⟨rfl, rfl, rfl, by simp, fun k hk hne => ?_⟩
  rw [heap_grow_old _ _ (by simpa using hk)]
  have : g ≠ k := fun e => hne (by rw [e])
  simp [putRow, mapBlock, Sort.ahead, Array.getElem?_modify, this]
theorem sortH_owns {l m : List Ho} {B gb cap : Nat} {w w' : World} (h : w.ownsRow B 43 6 (.slice (some ⟨gb, 0, none⟩) l.length cap) l.length (l.flatMap encH)) (hp : m.Perm l) (hw : SWK encH 6 w gb 0 m.toArray w') :
    w'.ownsRow B 43 6 (.slice (some ⟨gb, 0, none⟩) l.length cap) l.length (m.flatMap encH) ∧ w.grownBy w' (some gb) := by
  obtain ⟨n, os, rfl⟩ := hw
  have hy : (m.flatMap encH).length = (l.flatMap encH).length := by rw [rowLen encH_len, rowLen encH_len, hp.length_eq]
  have h2 := owns_putId (q := n) h hy
  have e3 : sortWorldK encH 6 w gb 0 n m.toArray os = grow (putRow id (Sort.ahead w n) gb 0 (m.flatMap encH).toArray) os := by
    unfold sortWorldK putRowK
    rw [← flatK_eq encH_len (by decide) m]
  rw [e3]
  exact ⟨h2.kept (row := none) ⟨rfl, rfl, rfl, by simp, fun k hk _ => Sort.heap_grow_old _ os hk⟩ (.inr (by simp [Value.ownBlock])), grownBy_putId _⟩
/-- What the sort makes of a row. -/
def SortPost (l : List Ho) (v : Value) (B : Nat) (w : World) (e : Ending) (w' : World) : Prop :=
  e = .returned (.tuple #[]) ∧ (∃ m : List Ho, m.Perm l ∧ UpH m ∧ (UpH l → m = l) ∧ w'.ownsRow B 43 6 v l.length (m.flatMap encH)) ∧ w.grownBy w' v.ownBlock
set_option maxRecDepth 100000 in
set_option maxHeartbeats 1600000 in
theorem sortH_any (l : List Ho) (v : Value) (B : Nat) (w : World) (hl : l.length ≤ 300) (h : w.ownsRow B 43 6 v l.length (l.flatMap encH)) :
    Calls Try.prog 29 #[v, .func (.func 30) #[] #[]] w (SortPost l v B w) := by
  by_cases hv : v = .slice none 0 0
  · subst hv
    have hl0 : l = [] := by
      rcases h.2 with ⟨_, h0⟩ | ⟨_, _, _, e0, _⟩
      · exact List.eq_nil_of_length_eq_zero h0
      · cases e0
    subst hl0
    refine (sort0_any (.func 30) #[] #[] w).mono ?_
    rintro e w' ⟨he, rfl⟩
    exact ⟨he, ⟨[], List.Perm.refl _, List.Pairwise.nil, fun _ => rfl, h⟩, World.grownBy.refl _ _⟩
  · obtain ⟨gb, cap, rfl, hg, hlt, _, _, hH⟩ := holdsId_of_owns h hv
    have hH' : HoldsK encH 6 w gb 0 l.toArray := by unfold HoldsK; rw [flatK_eq encH_len (by decide)]; exact hH
    have hc := stableCmp_any l gb cap w hH' hlt hl
    have HPO : Hid (∀ w', (∃ m : List Ho, m.Perm l ∧ UpH m ∧ (UpH l → m = l) ∧ SWK encH 6 w gb 0 m.toArray w') → SortPost l (.slice (some ⟨gb, 0, none⟩) l.length cap) B w (.returned (.tuple #[])) w') := by
      rintro w' ⟨m, hp, hu, hst, hw⟩
      obtain ⟨q1, q2⟩ := sortH_owns h hp hw
      exact ⟨rfl, ⟨m, hp, hu, hst, q1⟩, q2⟩
    clear hH hH' h
    generalize SortPost l (.slice (some ⟨gb, 0, none⟩) l.length cap) B w = POST at *
    go_enter Try.func29, Try.ntmps29
    go_wp2_with fail
    refine hc.mono ?_
    rintro e w' ⟨rfl, hm⟩
    have HM := Lib.hid hm
    clear hm hc
    go_wp2
    go_end0
    exact HPO.out _ HM.out
end Go.Proofs.Ytkinhhkodaacjaa

