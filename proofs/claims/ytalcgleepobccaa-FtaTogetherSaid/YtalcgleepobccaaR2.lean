/- Plain: clocks behind a round; the contract of the program's Round. -/
import Derived.Test.YtalcgleepobccaaR1
import Derived.Test.YtalcgleepobccaaP2
import Derived.Test.YtalcgleepobccaaW8
import Derived.StillTailTactics
import Derived.Deep.RegionHeld3
import Derived.IntWalk
namespace Go.Proofs.Ytalcgleepobccaa
open Go.RowKit Go.Shelf

/-- The first i of n places filled. -/
def part (F : Nat → Int) (n i : Nat) : List Int := (List.range n).map fun j => if j < i then F j else 0
theorem part_len (F : Nat → Int) (n i : Nat) : (part F n i).length = n := by simp [part]
theorem part_zero (F : Nat → Int) (n : Nat) : part F n 0 = List.replicate n 0 := by
  unfold part
  simp [List.map_const']
theorem part_get (F : Nat → Int) {n i j : Nat} (hj : j < n) : (part F n i)[j]? = some (if j < i then F j else 0) := by simp [part, hj]
theorem part_set (F : Nat → Int) {n i : Nat} (_hi : i < n) : (part F n i).set i (F i) = part F n (i + 1) := by
  apply List.ext_getElem?
  intro j
  by_cases hj : j < n
  · rw [List.getElem?_set, part_len, part_get F hj]
    by_cases h : i = j
    · subst h
      simp [part_get F hj, hj]
    · rw [if_neg h, part_get F hj]
      simp only [Option.some.injEq]
      by_cases h2 : j < i
      · rw [if_pos h2, if_pos (by omega)]
      · rw [if_neg h2, if_neg (by omega)]
  · rw [List.getElem?_eq_none (by simp [part_len]; omega), List.getElem?_eq_none (by rw [part_len]; omega)]
theorem part_all (F : Nat → Int) (n i : Nat) (h : n ≤ i) : part F n i = (List.range n).map F := by
  unfold part
  apply List.map_congr_left
  intro j hj
  rw [if_pos (by have := List.mem_range.1 hj; omega)]

/-- What node i makes of the others' clocks. -/
def rowOf (cl : List Int) (i : Nat) (s : List Int) : List Int := (List.range cl.length).map fun k => cl.getD k 0 - cl.getD i 0 + s.getD k 0
def rndAt (cl : List Int) (M : List Rw) (i : Nat) : Int := cl.getD i 0 + (Fta.mid (rowOf cl i ((M.map (·.l)).getD i []))).1
def rnd (cl : List Int) (M : List Rw) : List Int := (List.range cl.length).map (rndAt cl M)
def argBad (cl : List Int) (M : List Rw) : Bool := decide (cl.length < 4) || decide (8 < cl.length) || !decide ((M.length : Int) = cl.length) || M.any (lenNe cl.length)
def offBad (cl : List Int) (M : List Rw) : Bool := cl.any (Fta.far B38) || M.any farRow
def rndE (cl : List Int) (M : List Rw) : Int := if argBad cl M then 2 else if offBad cl M then 80 else 0
def rndL (cl : List Int) (M : List Rw) : List Int := if argBad cl M then [] else if offBad cl M then [] else rnd cl M
def RoundPost (cl : List Int) (M : List Rw) (w : World) (e : Ending) (w' : World) : Prop :=
  (∃ v', e = .returned (.tuple #[v', .int .i64 (rndE cl M)]) ∧ w'.ownsRow w.heap.size 2 1 v' (rndL cl M).length ((rndL cl M).map (.int .i64))) ∧ Below w.heap.size w w'

theorem notFar {l : List Int} (h : l.any (Fta.far B38) = false) {k : Nat} (hk : k < l.length) : -274877906944 ≤ l.getD k 0 ∧ l.getD k 0 ≤ 274877906944 := by
  have := (List.any_eq_false.1 h) _ (getD_mem hk)
  generalize l.getD k 0 = x at *
  have h' : ¬ (x < -274877906944 ∨ 274877906944 < x) := fun hh => this (by show (decide (x < -274877906944) || decide (274877906944 < x)) = true; simpa using hh)
  omega
theorem made_part (F : Nat → Int) (n : Nat) : (madeCells (Value.int .i64 0).cells (n * 1)).toList = (part F n 0).map (Value.int .i64) := by
  rw [part_zero]
  apply List.ext_getElem?
  intro j
  by_cases hj : j < n
  · simp [madeCells, Value.cells, hj, Nat.mod_one]
  · simp [madeCells, hj]
theorem rowOf_len (cl : List Int) (i : Nat) (s : List Int) : (rowOf cl i s).length = cl.length := by simp [rowOf]
theorem rowOf_ok {cl s : List Int} {i : Nat} (hi : i < cl.length) (hs : s.length = cl.length) (hc : cl.any (Fta.far B38) = false) (hf : s.any (Fta.far B38) = false) :
    (Fta.mid (rowOf cl i s)).2 = 0 ∧ ∀ x ∈ rowOf cl i s, -824633720832 ≤ x ∧ x ≤ 824633720832 := by
  have hb : ∀ x ∈ rowOf cl i s, -824633720832 ≤ x ∧ x ≤ 824633720832 := fun x hx => by
    obtain ⟨k, hk, rfl⟩ := List.mem_map.1 hx
    have hk' := List.mem_range.1 hk
    have h1 := notFar hc hk'
    have h2 := notFar hc hi
    have h3 := notFar hf (show k < s.length by omega)
    omega
  refine ⟨Fta.mid_ok.2 ⟨fun e => ?_, fun x hx => ?_⟩, hb⟩
  · have := rowOf_len cl i s
    rw [e] at this
    simp at this
    omega
  · have := hb x hx
    unfold Fta.bigB
    omega
theorem map_set' (l : List Int) (i : Nat) (x : Int) : (l.map (Value.int .i64)).set i (.int .i64 x) = (l.set i x).map (Value.int .i64) := by rw [List.map_set]

theorem owK {w w' : World} {base B : Nat} {e : TypeId} {size : Nat} {v : Value} {n : Nat} {xs : List Value} (h : w.ownsRow base e size v n xs) (hb : Below B w w') (hB : B = w.heap.size) : w'.ownsRow base e size v n xs := by
  subst hB
  exact h.kept (row := none) ⟨hb.os, hb.tape, hb.output, hb.size, fun k hk _ => hb.block k hk⟩ (by cases hv : v.ownBlock <;> simp)
theorem owBase {w : World} {base base' : Nat} {e : TypeId} {size : Nat} {v : Value} {n : Nat} {xs : List Value} (h : w.ownsRow base e size v n xs) (hb : base' ≤ base) : w.ownsRow base' e size v n xs := by
  refine ⟨h.1, ?_⟩
  rcases h.2 with h | ⟨g, cap, cur, h1, h2, r⟩
  · exact .inl h
  · exact .inr ⟨g, cap, cur, h1, Nat.le_trans hb h2, r⟩

theorem keepC {W W' : World} {B : Nat} (hb : Below B W W') {p : Addr} {v : Value} (h : W.cell? p = some v) (hp : p.block < B) : W'.cell? p = some v := by
  rw [hb.cell hp, h]

theorem setOther {w : World} {b o b' o' : Nat} {v : Value} (h : b' < b) : (w.setCell ⟨b, o, none⟩ v).cell? ⟨b', o', none⟩ = w.cell? ⟨b', o', none⟩ :=
  World.cell?_setCell_other _ _ _ _ (by intro e; injection e with e1 e2; omega)

theorem setOtherD {w : World} {b o b' o' : Nat} {v : Value} (h : b' < b) : (w.setCell ⟨b, o, none⟩ v).drew.cell? ⟨b', o', none⟩ = w.cell? ⟨b', o', none⟩ := setOther h

set_option maxRecDepth 100000 in
set_option maxHeartbeats 1600000 in
/-- Round where nothing is wrong. -/
theorem round_main (cl : List Int) (v : Value) (M : List Rw) (u : Value) (w : World) (h : Ints w v cl) (hM : Mat w u M) (ha : argBad cl M = false) (hf : offBad cl M = false) :
    Calls Try.prog 19 #[v, u] w (RoundPost cl M w) := by
  have hE : Hid (rndE cl M = 0 ∧ rndL cl M = rnd cl M) := by
    show _ ∧ _
    unfold rndE rndL
    rw [ha, hf]
    exact ⟨rfl, rfl⟩
  have ha' := ha
  simp only [argBad, Bool.or_eq_false_iff, decide_eq_false_iff_not, Bool.not_eq_false', decide_eq_true_eq] at ha'
  obtain ⟨⟨⟨n4, n8⟩, hML⟩, hMl⟩ := ha'
  have hf' := hf
  simp only [offBad, Bool.or_eq_false_iff] at hf'
  obtain ⟨hcf, hMf⟩ := hf'
  have hbox : Below w.heap.size w (w.alloc (.cells #[.int .i64 cl.length] 3)) := (Below.refl _ _).alloc (Nat.le_refl _) _
  have hcon1 := containsFuncM_any 31 #[.pointer (some ⟨w.heap.size, 0, none⟩)] (lenNe cl.length) M u (w.alloc (.cells #[.int .i64 cl.length] 3)) (enters_of Try.func31 (by kernel_rfl) rfl)
    (fun r hr W hW => clLen_any r cl.length w.heap.size W (by have := h.len; omega) (hM.2 r hr).len (by rw [hW.cell (by simp)]; simp)) (hM.below hbox)
  rw [hMl] at hcon1
  have hrl : ∀ r ∈ M, r.l.length = cl.length := fun r hr => by
    have := (List.any_eq_false.1 hMl) r hr
    simp [lenNe] at this
    omega
  have hrf : ∀ r ∈ M, r.l.any (Fta.far B38) = false := fun r hr => by
    have := (List.any_eq_false.1 hMf) r hr
    simpa [farRow] using this
  have hcon2 : ∀ W, Below w.heap.size w W → Calls Try.prog 23 #[v, .int .i64 274877906944] W fun e w' => e = .returned (.bool false) ∧ Below W.heap.size W w' := fun W hW => by
    have := anyFar_any cl v 274877906944 W (by decide) (by decide) (h.below hW)
    rwa [show cl.any (Fta.far 274877906944) = false from hcf] at this
  have hcon3 : ∀ W, Below w.heap.size w W → Calls Try.prog 30 #[u, .func (.func 32) #[] #[]] W fun e w' => e = .returned (.bool false) ∧ Below W.heap.size W w' := fun W hW => by
    have := containsFuncM_any 32 #[] farRow M u W (enters_of Try.func32 (by kernel_rfl) rfl) (fun r hr W' hW' => clFar_any r W' ((hM.below hW).2 r hr |>.below hW')) (hM.below hW)
    rwa [hMf] at this
  have HR := Lib.hid hrl
  have HF := Lib.hid hrf
  have HCF := Lib.hid hcf
  have hmk : ∀ W : World, Below w.heap.size w W → Ints W v cl := fun W hW => h.below hW
  have hMk : ∀ W : World, Below w.heap.size w W → Mat W u M := fun W hW => hM.below hW
  obtain ⟨a, cap, rfl, q1, q2, q3⟩ := h.shape
  obtain ⟨a', cap', rfl, p1, p2, p3⟩ := hM.1.shape
  obtain ⟨cb, coff, rfl, hcb, hcc⟩ := h.row (by rintro rfl; simp at n4)
  obtain ⟨mb, moff, rfl, hmb, hmc⟩ := hM.1.row (by rintro rfl; simp at hML; omega)
  have HCC := Lib.hid hcc
  have HMC := Lib.hid hmc
  have hML' : (M.length : Int) = cl.length := hML
  have hMLn : M.length = cl.length := by omega
  have HML := Lib.hid hMLn
  simp only [hMLn] at hcon1 hcon3 hMk p1 p3 ⊢
  clear hcc hmc hML hML' hMLn ha hf hrl hrf hcf hMl hMf h hM
  have n4' : 4 ≤ cl.length := by omega
  have n8' : cl.length ≤ 8 := by omega
  clear n4 n8
  obtain ⟨n, hn⟩ : ∃ n, cl.length = n := ⟨_, rfl⟩
  have HN := Lib.hid hn
  rw [hn] at hcon1 hcon2 hmk q1 q3 n4' n8' ⊢
  simp only [hn] at hbox hcon3 hMk p1 p3
  clear hn
  obtain ⟨i0, hi, hz0, hz1, hz2⟩ := info_parts E22.info
  go_enter Try.func19, Try.ntmps19
  go_wp2_with fail
  refine hcon1.mono ?_
  rintro e w1 ⟨rfl, hb1⟩
  clear hcon1
  have b1 := hbox.trans (hb1.mono hbox.size)
  have hs1 : w.heap.size + 1 ≤ w1.heap.size := by have := hb1.size; simpa using this
  have hx1 : w1.cell? ⟨w.heap.size, 0, none⟩ = some (.int .i64 n) := keepC hb1 (by simp) (by simp)
  go_wp2_with fail
  refine (hcon2 w1 b1).mono ?_
  rintro e w2 ⟨rfl, hb2⟩
  have b2 := b1.trans (hb2.mono b1.size)
  have hs2 : w.heap.size + 1 ≤ w2.heap.size := by have := hb2.size; omega
  have hx2 : w2.cell? ⟨w.heap.size, 0, none⟩ = some (.int .i64 n) := keepC hb2 hx1 (by simp; omega)
  clear hx1 hb1 hb2
  go_wp2_with fail
  refine (hcon3 w2 b2).mono ?_
  rintro e w3 ⟨rfl, hb3⟩
  have b3 := b2.trans (hb3.mono b2.size)
  have hs3 : w.heap.size + 1 ≤ w3.heap.size := by have := hb3.size; omega
  have hx3 : w3.cell? ⟨w.heap.size, 0, none⟩ = some (.int .i64 n) := keepC hb3 hx2 (by simp; omega)
  clear hx2 hb3 b1 b2 hs1 hs2 hcon2 hcon3
  go_wp2_with (at_make; refine wpList_make_full _ rfl _ _ 22 rfl (w.heap.size + 1) 2 i0 (.int .i64 0) 1 Try.underlying22 hi hz0 hz1 _ _ _ _ n rfl rfl rfl rfl (by rw [hz2]; omega) (by unfold maxLen; omega) hs3 ?_; intro w4 hown4 hgrow4; have b4 := b3.grown hgrow4 b3.size (by intro k hk; cases hk); have hx4 : w4.cell? ⟨w.heap.size, 0, none⟩ = some (.int .i64 n) := (World.cell?_of_block (hgrow4.block _ (World.block_lt_of_cell? _ _ hx3) (by simp))).trans hx3)
  rw [made_part (rndAt cl M)] at hown4
  have hg0 : w.heap.size + 1 ≤ w3.heap.size := hs3
  generalize w3.heap.size = g at *
  clear hx3 b3 hs3 hgrow4
  go_loopw [41] (fun i wr => ∃ j : Nat, j ≤ n ∧ i = .int .i64 j ∧ wr.ownsRow (w.heap.size + 1) 2 1 (.slice (some ⟨g, 0, none⟩) n n) n ((part (rndAt cl M) n j).map (.int .i64)) ∧ wr.cell? ⟨w.heap.size, 0, none⟩ = some (.int .i64 n) ∧ Below w.heap.size w wr) (fun i _ => n - (intOf i).toNat)
  case atStart => exact ⟨0, Nat.zero_le _, rfl, hown4, hx4, b4⟩
  case round =>
    obtain ⟨j, hj, rfl, hrow, hxr, hbr⟩ := hrel
    clear hown4 hx4 b4
    by_cases hlt : j < n
    · obtain ⟨r, hr⟩ : ∃ r, M[j]? = some r := ⟨_, List.getElem?_eq_getElem (by rw [HML.out, HN.out]; exact hlt)⟩
      have hrm := List.mem_of_getElem? hr
      have hrI := (hMk wr hbr).2 r hrm
      have hrlen : r.l.length = n := by rw [HR.out r hrm, HN.out]
      have hmcell : wr.cell? ⟨mb, moff + j, none⟩ = some (rwv r) := by rw [hbr.cell hmb]; exact HMC.out.one (f := rwv) hr
      have HRf := Lib.hid (HF.out r hrm)
      have HRA : Hid (rndAt cl M j = cl.getD j 0 + (Fta.mid (rowOf cl j r.l)).1) := by
        show _ = _
        unfold rndAt
        simp [List.getD_eq_getElem?_getD, hr]
      have HOK := Lib.hid (rowOf_ok (i := j) (by rw [HN.out]; exact hlt) (by rw [hrlen, HN.out]) HCF.out (HF.out r hrm))
      have HRN := Lib.hid hrlen
      obtain ⟨rb, roff, rfl2, hrb, hrc⟩ : ∃ rb roff, r.a = some ⟨rb, roff, none⟩ ∧ rb < wr.heap.size ∧ ∀ k, k < r.l.length → wr.cell? ⟨rb, roff + k, none⟩ = some (.int .i64 (r.l.getD k 0)) :=
        Ints.row hrI (by intro e; rw [e] at hrlen; simp at hrlen; omega)
      have hrcap := hrI.shape
      obtain ⟨ra, rcap, rl⟩ := r
      simp only at rfl2
      subst rfl2
      unfold rwv at hmcell hrcap
      simp only at hmcell hrcap hrc hrlen HRA HRf HOK HRN
      obtain ⟨_, _, hrcE, hrc1, hrc2, _⟩ := hrcap
      simp only [Value.slice.injEq] at hrcE
      obtain ⟨rfl, _, rfl⟩ := hrcE
      rw [hrlen] at hmcell hrc1
      have HRC := Lib.hid hrc
      have hcj : wr.cell? ⟨cb, coff + j, none⟩ = some (.int .i64 (cl.getD j 0)) := by rw [hbr.cell hcb]; exact HCC.out j (by rw [HN.out]; exact hlt)
      have hcjb := notFar HCF.out (k := j) (by rw [HN.out]; exact hlt)
      clear hrc hrI hr hrm hrlen
      obtain ⟨y, hy⟩ : ∃ y, y = cl.getD j 0 := ⟨_, rfl⟩
      rw [← hy] at hcj hcjb HRA
      have HY := Lib.hid hy
      clear hy
      obtain ⟨wo, rfl⟩ : ∃ wo, wo = wr := ⟨_, rfl⟩
      go_wp2_with (at_make; refine wpList_make_full _ rfl _ _ 22 rfl wo.heap.size 2 i0 (.int .i64 0) 1 Try.underlying22 hi hz0 hz1 _ _ _ _ n rfl rfl rfl rfl (by rw [hz2]; omega) (by unfold maxLen; omega) (Nat.le_refl _) ?_; intro w5 hown5 hgrow5; have b5 : Below wo.heap.size wo w5 := (Below.refl _ wo).grown hgrow5 (Nat.le_refl _) (by intro k hk; cases hk); have hx5 : w5.cell? ⟨w.heap.size, 0, none⟩ = some (.int .i64 n) := keepC b5 hxr (World.block_lt_of_cell? _ _ hxr))
      rw [made_part (fun k => cl.getD k 0 - y + rl.getD k 0)] at hown5
      obtain ⟨G, hG⟩ : ∃ G, G = fun k => cl.getD k 0 - y + rl.getD k 0 := ⟨_, rfl⟩
      rw [← hG] at hown5
      have HG := Lib.hid hG
      clear hG hgrow5
      go_loopw [47] (fun i wr => ∃ k : Nat, k ≤ n ∧ i = .int .i64 k ∧ wr.ownsRow wo.heap.size 2 1 (.slice (some ⟨wo.heap.size, 0, none⟩) n n) n ((part G n k).map (.int .i64)) ∧ wr.cell? ⟨w.heap.size, 0, none⟩ = some (.int .i64 n) ∧ Below wo.heap.size wo wr) (fun i _ => n - (intOf i).toNat)
      case atStart => exact ⟨0, Nat.zero_le _, rfl, hown5, hx5, b5⟩
      case round =>
        obtain ⟨k, hk, rfl, hrow2, hxi, hbi⟩ := hrel
        clear hown5 hx5 b5
        have hcj2 := keepC hbi hcj (World.block_lt_of_cell? _ _ hcj)
        have hmc2 := keepC hbi hmcell (World.block_lt_of_cell? _ _ hmcell)
        by_cases hlk : k < n
        · have hck2 : wr.cell? ⟨cb, coff + k, none⟩ = some (.int .i64 (cl.getD k 0)) := by
            have h1 : wo.cell? ⟨cb, coff + k, none⟩ = some (.int .i64 (cl.getD k 0)) := by rw [hbr.cell hcb]; exact HCC.out k (by rw [HN.out]; exact hlk)
            exact keepC hbi h1 (World.block_lt_of_cell? _ _ h1)
          have hrk2 : wr.cell? ⟨rb, roff + k, none⟩ = some (.int .i64 (rl.getD k 0)) := by
            have h1 := HRC.out k (by rw [HRN.out]; exact hlk)
            exact keepC hbi h1 (World.block_lt_of_cell? _ _ h1)
          have hckb := notFar HCF.out (k := k) (by rw [HN.out]; exact hlk)
          have hrkb := notFar HRf.out (k := k) (by rw [HRN.out]; exact hlk)
          obtain ⟨hq1, hq2⟩ := own_at hrow2 (j := k) (u := .int .i64 0) (by rw [List.getElem?_map, part_get G hlk]; simp)
          have hst := (hrow2.stored k (.int .i64 (G k))).1
          rw [map_set', part_set G hlk] at hst
          have hGk : Hid (G k = cl.getD k 0 - y + rl.getD k 0) := by show _ = _; rw [HG.out]
          have hki : (k : Int) < n := by omega
          have hji : (j : Int) < n := by omega
          clear hrow hrow2
          obtain ⟨x, hx⟩ : ∃ x, x = cl.getD k 0 := ⟨_, rfl⟩
          obtain ⟨z, hz⟩ : ∃ z, z = rl.getD k 0 := ⟨_, rfl⟩
          rw [← hx] at hck2 hckb hGk
          rw [← hz] at hrk2 hrkb hGk
          clear hx hz
          obtain ⟨q1', q2'⟩ := hckb
          obtain ⟨q3', q4'⟩ := hrkb
          obtain ⟨q5', q6'⟩ := hcjb
          have hcb2 : cb < wo.heap.size := Nat.lt_of_lt_of_le hcb hbr.size
          have hmb2 : mb < wo.heap.size := Nat.lt_of_lt_of_le hmb hbr.size
          have hw1 : IntKind.i64.wrap (x - y) = x - y := IntWalk.i64_in _ (by omega)
          have hw2 : IntKind.i64.wrap (x - y + z) = x - y + z := IntWalk.i64_in _ (by omega)
          go_wp2
          go_region_held3 (fun W => W.cell? ⟨cb, coff + k, none⟩ = some (.int .i64 x) ∧ W.cell? ⟨cb, coff + j, none⟩ = some (.int .i64 y) ∧ W.cell? ⟨mb, moff + j, none⟩ = some (.slice (some ⟨rb, roff, none⟩) n rcap) ∧ W.cell? ⟨rb, roff + k, none⟩ = some (.int .i64 z)) (first | exact ⟨hck2, hcj2, hmc2, hrk2⟩ | exact ⟨(setOtherD hcb2).trans hck2, (setOtherD hcb2).trans hcj2, (setOtherD hmb2).trans hmc2, (setOtherD hrb).trans hrk2⟩) (fail)
          go_wp2
          go_roundw
          case rel => exact ⟨k + 1, by omega, by go_num, by rw [hGk.out] at hst; exact hst, (setOtherD (World.block_lt_of_cell? _ _ hxr)).trans hxi, (hbi.setCell (p := ⟨wo.heap.size, k, none⟩) (Nat.le_refl _) _).drew⟩
          case measure => simp [intOf]; omega
        · rw [part_all G n k (by omega)] at hrow2
          have hGr : (List.range n).map G = rowOf cl j rl := by rw [HG.out]; unfold rowOf; rw [HN.out, HY.out]
          rw [hGr] at hrow2
          have hl : (rowOf cl j rl).length = n := by rw [rowOf_len, HN.out]
          obtain ⟨hz, hbd⟩ := HOK.out
          have hI := Ints.of_owns (w := wr) (base := wo.heap.size) (v := .slice (some ⟨wo.heap.size, 0, none⟩) n n) (l := rowOf cl j rl) (by rw [hl]; exact hrow2) (by omega) (fun x hx => by have := hbd x hx; unfold I64; omega)
          have hmid := mid_any (rowOf cl j rl) _ wr hI
          rw [hz] at hmid
          have hmb := Fta.mid_bd (rowOf cl j rl)
          have hrow6 := owK hrow hbi rfl
          clear hI hrow2 hGr hl hz hbd hrow
          generalize (Fta.mid (rowOf cl j rl)).1 = m at *
          obtain ⟨m1, m2⟩ := hmb
          obtain ⟨y1, y2⟩ := hcjb
          go_wp2_with fail
          refine hmid.mono ?_
          rintro e w6 ⟨rfl, hb6⟩
          clear hmid
          have hrow7 := owK hrow6 hb6 rfl
          have hx6 := keepC hb6 hxi (World.block_lt_of_cell? _ _ hxi)
          have hcj6 := keepC hb6 hcj2 (World.block_lt_of_cell? _ _ hcj2)
          have b6 := hbr.trans ((hbi.trans (hb6.mono hbi.size)).mono hbr.size)
          obtain ⟨ho1, ho2⟩ := own_at hrow7 (j := j) (u := .int .i64 0) (by rw [List.getElem?_map, part_get _ hlt]; simp)
          have hst := (hrow7.stored j (.int .i64 (rndAt cl M j))).1
          rw [map_set', part_set _ hlt, HRA.out] at hst
          clear hrow6 hrow7
          go_wp2
          go_roundw
          case rel => exact ⟨j + 1, by omega, by go_num, hst, (setOther (by omega)).trans hx6, b6.setCell (p := ⟨g, j, none⟩) (by simp; omega) _⟩
          case measure => simp [intOf]; omega
    · rw [part_all _ n j (by omega)] at hrow
      have hrow := owBase hrow (Nat.le_succ _)
      have hlen : (rnd cl M).length = n := by unfold rnd; rw [List.length_map, List.length_range, HN.out]
      have hrw : (List.range n).map (rndAt cl M) = rnd cl M := by unfold rnd; rw [HN.out]
      rw [hrw] at hrow
      have HO := Lib.hid hrow
      have HL := Lib.hid hlen
      clear hrow hrw hlen
      go_wp2
      go_ret2
      exact ⟨⟨_, by rw [hE.out.1]; rfl, by rw [hE.out.2, HL.out]; exact HO.out⟩, hbr⟩
end Go.Proofs.Ytalcgleepobccaa
