/- The reader's numbers. -/
import Derived.Test.YtjaaldeaknmmbaaDoorZ3
namespace Go.Proofs.YtjaaldeaknmmbaaDoor
open Go.RowKit Go.Shelf

def encA (a : Addr) : List Value := [.pointer (some a)]
/-- Numbers, each stored at its place. -/
def setAll (w : World) (l : List (Addr × Int)) : World := l.foldl (fun w p => w.setCell p.1 (.int .i64 p.2)) w
theorem setAll_snoc (w : World) (l : List (Addr × Int)) (a : Addr) (v : Int) : setAll w (l ++ [(a, v)]) = (setAll w l).setCell a (.int .i64 v) := by simp [setAll]
theorem setCell_cong {X Y : World} {j : Nat} (h : X.heap[j]? = Y.heap[j]?) (a : Addr) (v : Value) : (X.setCell a v).heap[j]? = (Y.setCell a v).heap[j]? := by
  simp only [World.setCell, Array.getElem?_modify, h]
theorem setAll_size (w : World) (l : List (Addr × Int)) : (setAll w l).heap.size = w.heap.size := by
  induction l generalizing w with
  | nil => rfl
  | cons p l ih => show (setAll (w.setCell p.1 _) l).heap.size = _; rw [ih]; simp [World.setCell]
theorem setAll_other {w : World} {l : List (Addr × Int)} {j : Nat} (h : ∀ p ∈ l, p.1.block ≠ j) : (setAll w l).heap[j]? = w.heap[j]? := by
  induction l generalizing w with
  | nil => rfl
  | cons p l ih =>
    show (setAll (w.setCell p.1 _) l).heap[j]? = _
    rw [ih (fun q hq => h q (by simp [hq]))]
    have := h p (by simp)
    simp [World.setCell, Array.getElem?_modify, this]
/-- What numbers leaves: so many numbers in their places; whether all were. -/
structure NumsP (br : Nat) (s : RdS) (ws : List (List UInt8)) (A : List Addr) (w : World) (b : Bool) (vals : List Int) (w' : World) : Prop where
  os : w'.os = w.os
  tape : w'.tape = w.tape
  output : w'.output = w.output
  size : w.heap.size ≤ w'.heap.size
  rd : Blk w' br 52 (rdC ⟨s.rest, s.n, b⟩).toArray
  block : ∀ j, j < w.heap.size → j ≠ br → w'.heap[j]? = (setAll w (A.zip vals)).heap[j]?
  len : vals.length ≤ A.length
def NumsPost (br : Nat) (s : RdS) (ws : List (List UInt8)) (A : List Addr) (w : World) (e : Ending) (w' : World) : Prop :=
  e = .returned (.tuple #[]) ∧ ∃ (b : Bool) (vals : List Int), NumsP br s ws A w b vals w' ∧ (b = false → s.bad = false ∧ numsS (ws.take A.length) = some vals) ∧ (b = true → s.bad = true ∨ numsS (ws.take A.length) = none)
theorem numsS_snoc : ∀ {l : List (List UInt8)} {x : List UInt8} {vals : List Int} {v : Int}, numsS l = some vals → numS x = some v → numsS (l ++ [x]) = some (vals ++ [v])
  | [], x, vals, v, h, hx => by
    simp only [numsS, Option.some.injEq] at h
    subst h
    simp [numsS, hx]
  | w :: l, x, vals, v, h, hx => by
    unfold numsS at h
    cases hw : numS w with
    | none => rw [hw] at h; cases h
    | some n =>
      rw [hw] at h
      obtain ⟨vs, hv, rfl⟩ := Option.map_eq_some_iff.1 h
      rw [List.cons_append, numsS, hw]
      simp only
      rw [numsS_snoc hv hx]
      rfl
theorem numsS_bad : ∀ {l m : List (List UInt8)} {x : List UInt8}, numS x = none → numsS (l ++ x :: m) = none
  | [], m, x, h => by simp [numsS, h]
  | w :: l, m, x, h => by
    rw [List.cons_append, numsS]
    cases numS w with
    | none => rfl
    | some n => simp only; rw [numsS_bad h]; rfl
theorem take_split {β : Type} {l : List β} {k m : Nat} {x : β} (h : l[k]? = some x) (hk : k < m) : ∃ r, l.take m = l.take k ++ x :: r := by
  refine ⟨(l.take m).drop (k + 1), ?_⟩
  have e := List.take_append_drop (k + 1) (l.take m)
  rw [List.take_take, Nat.min_eq_left (by omega), take_snocB h, List.append_assoc] at e
  exact e.symm
def IntCell (w : World) (a : Addr) : Prop := (∃ x : Int, w.cell? a = some (.int .i64 x)) ∧ w.frozen? a = false
theorem IntCell.set {w : World} {a : Addr} (h : IntCell w a) (p : Addr) (v : Int) : IntCell (w.setCell p (.int .i64 v)) a := by
  obtain ⟨⟨x, hx⟩, hf⟩ := h
  refine ⟨?_, by rw [World.frozen?_setCell]; exact hf⟩
  by_cases e : p = a
  · subst e; exact ⟨v, by apply World.cell?_setCell_same; exact hx⟩
  · exact ⟨x, (by apply World.cell?_setCell_other; exact e : (w.setCell p (.int .i64 v)).cell? a = w.cell? a).trans hx⟩
theorem IntCell.all {w : World} {a : Addr} (h : IntCell w a) (l : List (Addr × Int)) : IntCell (setAll w l) a := by
  induction l generalizing w with
  | nil => exact h
  | cons p l ih => exact ih (h.set p.1 p.2)
theorem IntCell.cong {w w' : World} {a : Addr} (h : IntCell w a) (e : w'.heap[a.block]? = w.heap[a.block]?) : IntCell w' a := by
  obtain ⟨⟨x, hx⟩, hf⟩ := h
  exact ⟨⟨x, by rw [World.cell?_of_block e]; exact hx⟩, by rw [World.frozen?_of_block e]; exact hf⟩
section
variable {br : Nat} {s : RdS} {ws : List (List UInt8)} {A : List Addr} {w w' X : World} {b b' : Bool} {vals : List Int}
theorem NumsP.far (h : NumsP br s ws A w b vals w') {g : Nat} (hg : g < w.heap.size) (hne : g ≠ br) (hA : ∀ a ∈ A, a.block ≠ g) : w'.heap[g]? = w.heap[g]? := by
  rw [h.block g hg hne]
  exact setAll_other fun p hp => hA p.1 (List.of_mem_zip hp).1
theorem NumsP.int (h : NumsP br s ws A w b vals w') {a : Addr} (hi : IntCell w a) (hne : a.block ≠ br) (hlt : a.block < w.heap.size) : IntCell w' a := (hi.all (A.zip vals)).cong (h.block _ hlt hne)
theorem zip_snoc : ∀ {A : List Addr} {vals : List Int} {a : Addr} {v : Int}, A[vals.length]? = some a → A.zip (vals ++ [v]) = A.zip vals ++ [(a, v)]
  | [], vals, a, v, h => by simp at h
  | x :: A, [], a, v, h => by simp at h; subst h; simp
  | x :: A, y :: vals, a, v, h => by
    simp only [List.length_cons, List.getElem?_cons_succ] at h
    simp [zip_snoc h]
theorem NumsP.step (h : NumsP br s ws A w b vals w') (hx : Blk X br 52 (rdC ⟨s.rest, s.n, b'⟩).toArray) (hg : w'.grownBy X (some br)) {a : Addr} {v : Int} (ha : A[vals.length]? = some a) (hne : a.block ≠ br) : NumsP br s ws A w b' (vals ++ [v]) (X.setCell a (.int .i64 v)) := by
  have hk := (List.getElem?_eq_some_iff.1 ha).1
  refine ⟨hg.os.trans h.os, hg.tape.trans h.tape, hg.output.trans h.output, ?_, ?_, fun j hj hn => ?_, by simp; omega⟩
  · have h1 := h.size
    have h2 := hg.size
    have : (X.setCell a (.int .i64 v)).heap.size = X.heap.size := by simp [World.setCell]
    omega
  · unfold Blk at hx ⊢
    rw [show (X.setCell a (.int .i64 v)).heap[br]? = X.heap[br]? by simp [World.setCell, Array.getElem?_modify, hne]]
    exact hx
  · rw [zip_snoc ha, setAll_snoc]
    refine setCell_cong ?_ a _
    rw [hg.block j (Nat.lt_of_lt_of_le hj h.size) (by simpa using hn), h.block j hj hn]
end
set_option maxRecDepth 100000 in
set_option maxHeartbeats 1600000 in
theorem numbers_any (br : Nat) (rest : List UInt8) (n : Nat) (bad : Bool) (ws : List (List UInt8)) (A : List Addr) (lv av : Value) (W : World) (hb : Blk W br 52 (rdC ⟨rest, n, bad⟩).toArray) (hw : Wds W lv ws) (ha : Rd encA 1 W av A)
    (hA : ∀ a ∈ A, a.block ≠ br ∧ a.block < W.heap.size ∧ IntCell W a) (hfw : ∀ g o m c, lv = .slice (some ⟨g, o, none⟩) m c → g ≠ br ∧ ∀ a ∈ A, a.block ≠ g) (hfa : ∀ g o m c, av = .slice (some ⟨g, o, none⟩) m c → g ≠ br ∧ ∀ a ∈ A, a.block ≠ g)
    (hl : A.length ≤ ws.length) (hws : ∀ w ∈ ws, w.length ≤ 1000000000) :
    Calls Tryd.prog 25 #[.pointer (some ⟨br, 0, none⟩), lv, av] W (NumsPost br ⟨rest, n, bad⟩ ws A W) := by
  have HB := Lib.hid hb
  have HW := Lib.hid hw
  have HA := Lib.hid ha
  have HAA := Lib.hid hA
  have HFW := Lib.hid hfw
  have HFA := Lib.hid hfa
  have HWS := Lib.hid hws
  have HLL := Lib.hid hl
  have HPO : Hid (∀ (b : Bool) (vals : List Int) (w' : World), NumsP br ⟨rest, n, bad⟩ ws A W b vals w' → (b = false → bad = false ∧ numsS (ws.take A.length) = some vals) → (b = true → bad = true ∨ numsS (ws.take A.length) = none) → NumsPost br ⟨rest, n, bad⟩ ws A W (.returned (.tuple #[])) w') := fun b vals w' h1 h2 h3 => ⟨rfl, b, vals, h1, h2, h3⟩
  have HN0 : Hid (NumsP br ⟨rest, n, bad⟩ ws A W bad [] W) := ⟨rfl, rfl, rfl, Nat.le_refl _, hb, fun _ _ _ => by simp [setAll], Nat.zero_le _⟩
  generalize NumsPost br ⟨rest, n, bad⟩ ws A W = POST at *
  obtain ⟨la, lc, rfl, hlc, hlcm, -⟩ := hw.shape
  obtain ⟨aa, ac, rfl, hac, hacm, -⟩ := ha.shape
  obtain ⟨m, hm⟩ : ∃ m, m = A.length := ⟨_, rfl⟩
  obtain ⟨wl, hwl⟩ : ∃ wl, wl = ws.length := ⟨_, rfl⟩
  rw [← hm] at hac HA HPO ⊢
  rw [← hwl] at hlc HW ⊢
  have HM := Lib.hid hm
  have HWL := Lib.hid hwl
  have hmw : m ≤ wl := by rw [hm, hwl]; exact hl
  have hm8 : m ≤ 140737488351232 := by rw [hm]; exact ha.len
  clear hb hw ha hA hfw hfa hl hws hm hwl HB
  go_enter Tryd.func25, Tryd.ntmps25
  go_wp2_with fail
  go_loopw [10] (fun i wr => ∃ (k : Nat) (b : Bool) (vals : List Int), k ≤ m ∧ i = .int .i64 k ∧ Hid (NumsP br ⟨rest, n, bad⟩ ws A W b vals wr) ∧ Hid (b = false → bad = false ∧ numsS (ws.take k) = some vals ∧ vals.length = k) ∧ Hid (b = true → bad = true ∨ numsS (ws.take m) = none)) (fun i _ => m - (intOf i).toNat)
  case atStart => exact ⟨0, bad, [], Nat.zero_le _, rfl, HN0, (fun h => ⟨h, rfl, rfl⟩), (fun h => .inl h)⟩
  case round =>
    clear HN0
    obtain ⟨k, b, vals, hk, rfl, HN, HG, HX⟩ := hrel
    obtain ⟨wo, rfl⟩ : ∃ wo : World, wo = wr := ⟨_, rfl⟩
    by_cases hlt : k < m
    · obtain ⟨a, hs⟩ : ∃ a, A[k]? = some a := ⟨_, List.getElem?_eq_getElem (by rw [← HM.out]; exact hlt)⟩
      have haa := HAA.out a (List.mem_of_getElem? hs)
      obtain ⟨ga, oa, ea, hga, hca⟩ := HA.out.row (by rintro rfl; simp at hs)
      have hfa := HFA.out ga oa _ _ (by rw [ea])
      have ca : wo.cell? ⟨ga, oa + k, none⟩ = some (.pointer (some a)) := by
        rw [World.cell?_of_block (HN.out.far (g := ga) hga hfa.1 hfa.2)]
        have := hca k a hs 0 _ rfl
        simpa using this
      have d2 : wo.cell? ⟨br, 2, none⟩ = some (.bool b) := HN.out.rd.list0 rfl
      obtain ⟨ab, ao, asp⟩ := a
      have HS := Lib.hid hs
      have HAI := Lib.hid haa
      rw [ea]
      clear hs hca hfa haa ea
      cases b with
      | true =>
        have HX' := HX
        go_wp2
        go_roundw
        case rel => exact ⟨k + 1, true, vals, by omega, by go_num, HN, (fun h => by cases h), HX'⟩
        case measure => simp [intOf]; omega
      | false =>
        obtain ⟨hb0, hv, hvl⟩ := HG.out rfl
        obtain ⟨x, hx⟩ : ∃ x, ws[k]? = some x := ⟨_, List.getElem?_eq_getElem (by rw [← HWL.out]; omega)⟩
        have hxl := HWS.out x (List.mem_of_getElem? hx)
        obtain ⟨gw, ow, ew, hgw, hcw⟩ := HW.out.row (by rintro rfl; simp at hx)
        have hfw := HFW.out gw ow _ _ (by rw [ew])
        have cw : wo.cell? ⟨gw, ow + k, none⟩ = some (strV x) := by
          rw [World.cell?_of_block (HN.out.far (g := gw) hgw hfw.1 hfw.2)]
          have := hcw k x hx 0 _ rfl
          simpa using this
        have HV := Lib.hid (And.intro hb0 (And.intro hv hvl))
        have HXX := Lib.hid hx
        have hkw : k < wl := by omega
        have HNM := Lib.hid (rnumber_any br rest x n wo HN.out.rd hxl)
        rw [ew]
        clear hcw hfw ew hx hv hvl hb0 hgw hga HG HX
        go_wp2_with fail
        refine HNM.out.mono ?_
        rintro e X ⟨v, rfl, hnv, hblk, hgr⟩
        have HBX := Lib.hid hblk
        have HGX := Lib.hid hgr
        have HNV := Lib.hid hnv
        have hci : IntCell X ⟨ab, ao, asp⟩ := by
          refine (HN.out.int HAI.out.2.2 HAI.out.1 HAI.out.2.1).cong (hgr.block ab (Nat.lt_of_lt_of_le HAI.out.2.1 HN.out.size) ?_)
          have := HAI.out.1
          simpa using this
        obtain ⟨⟨x0, cx⟩, fx⟩ := hci
        have HST := Lib.hid (HN.out.step (v := v) hblk hgr (a := ⟨ab, ao, asp⟩) (by rw [HV.out.2.2]; exact HS.out) HAI.out.1)
        clear hblk hgr hnv HNM
        go_wp2
        go_roundw
        case rel =>
          refine ⟨k + 1, (numS x).isNone, vals ++ [v], by omega, by go_num, HST, (fun h => ?_), (fun h => ?_)⟩
          · obtain ⟨u, hu⟩ : ∃ u, numS x = some u := by
              cases hq : numS x with
              | none => rw [hq] at h; cases h
              | some u => exact ⟨u, rfl⟩
            have := HNV.out u hu
            subst this
            refine ⟨HV.out.1, ?_, by simp [HV.out.2.2]⟩
            rw [take_snocB HXX.out]
            exact numsS_snoc HV.out.2.1 hu
          · have hq : numS x = none := by simpa using h
            refine .inr ?_
            obtain ⟨rr, hsp⟩ := take_split HXX.out hlt
            rw [hsp]
            exact numsS_bad hq
        case measure => simp [intOf]; omega
    · obtain rfl : k = m := by omega
      go_wp2
      go_end0
      refine HPO.out b vals _ HN.out (fun h => ?_) HX.out
      have := HG.out h
      exact ⟨this.1, this.2.1⟩
end Go.Proofs.YtjaaldeaknmmbaaDoor
