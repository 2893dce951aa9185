/- The reader's snap: what its steps keep. The reader's snap. -/
import Derived.Test.YtjaaldeaknmmbaaDoorX6
namespace Go.Proofs.YtjaaldeaknmmbaaDoor
open Go.RowKit Go.Shelf

section
variable {br bs b5 : Nat} {F : Nat → Prop} {w W X : World} {s s' : RdS} {z : Sn} {c : Int}
theorem words_hs (h : HS br bs b5 F w W s z c) (hF : F br) (h0 : br ≠ 0) (first : List UInt8) (k : Nat) (hk : k ≤ 7) (hk2 : 2 ≤ k) : Calls Tryd.prog 26 #[.pointer (some ⟨br, 0, none⟩), strV first, .int .i64 (k : Int)] W fun e X =>
    ∃ lv, e = .returned lv ∧ Wds X lv (wordsS first k s).2 ∧ HS br bs b5 F w X (wordsS first k s).1 z c ∧ (∀ g o m c', lv = .slice (some ⟨g, o, none⟩) m c' → g ≠ br ∧ g ≠ bs ∧ g ≠ b5) ∧ Fr (fun j => j = br) W X := by
  refine (words_any br s.rest first s.n k s.bad W h.rd h.ml h0 h.ok.r h.ok.n hk).mono ?_
  rintro e X ⟨⟨lv, rfl, hw⟩, hr, hg⟩
  have h2 := h.grown hg hF h0 hr (h.ok.words first k).1
  exact ⟨lv, rfl, hw, h2, h2.apart hw (by rw [show (wordsS first k ⟨s.rest, s.n, s.bad⟩).2.length = k from words_len _ _ _]; exact hk2), Fr.grown hg⟩
theorem HS.setBg (h : HS br bs b5 F w W s z c) (hs : bs < w.heap.size → F bs) (hs0 : bs ≠ 0) (b : Bool) : HS br bs b5 F w (W.setCell ⟨bs, 16, none⟩ (.bool b)) s { z with bg := b } c :=
  ⟨h.rd.far (Ne.symm (blk_neq h.sn h.rd (by decide))) _, h.sn.setL 16 _, h.one.far (Ne.symm (blk_neq h.sn h.one (by decide))) _, h.fr.step (Fr.setCell _ _ _) (fun j hj e => by subst e; exact hs hj), h.ok, h.ml.fr (Fr.setCell _ _ _) (fun e => hs0 e.symm)⟩
end
theorem put6 {bs b4 : Nat} (hne : b4 ≠ bs) (z : Sn) (v0 : Int) (vals : List Int) : ∃ r i s tm su bg, putL bs z ([⟨bs, 0, none⟩, ⟨bs, 1, none⟩, ⟨bs, 2, none⟩, ⟨bs, 15, none⟩, ⟨b4, 0, none⟩, ⟨bs, 17, none⟩].zip vals) = { z with r := r, i := i, s := s, tm := tm, su := su } ∧
    oneL b4 v0 ([⟨bs, 0, none⟩, ⟨bs, 1, none⟩, ⟨bs, 2, none⟩, ⟨bs, 15, none⟩, ⟨b4, 0, none⟩, ⟨bs, 17, none⟩].zip vals) = bg ∧ (vals.length = 6 → vals = [r, i, s, tm, bg, su]) := by
  have hne' := Ne.symm hne
  match vals with
  | [] => exact ⟨z.r, z.i, z.s, z.tm, z.su, v0, rfl, rfl, fun h => by cases h⟩
  | [a] => exact ⟨a, z.i, z.s, z.tm, z.su, v0, by simp [putL, Sn.put], by simp [oneL, hne'], fun h => by cases h⟩
  | [a, b] => exact ⟨a, b, z.s, z.tm, z.su, v0, by simp [putL, Sn.put], by simp [oneL, hne'], fun h => by cases h⟩
  | [a, b, d] => exact ⟨a, b, d, z.tm, z.su, v0, by simp [putL, Sn.put], by simp [oneL, hne'], fun h => by cases h⟩
  | [a, b, d, e] => exact ⟨a, b, d, e, z.su, v0, by simp [putL, Sn.put], by simp [oneL, hne'], fun h => by cases h⟩
  | [a, b, d, e, f] => exact ⟨a, b, d, e, z.su, f, by simp [putL, Sn.put, hne], by simp [oneL, hne'], fun h => by cases h⟩
  | a :: b :: d :: e :: f :: g :: r => exact ⟨a, b, d, e, g, f, by simp [putL, Sn.put, hne], by simp [oneL, hne'], fun h => by
      have : r = [] := by simpa using h
      rw [this]⟩
theorem put5 (bs : Nat) (z : Sn) (vals : List Int) : ∃ t1 t2 t3 t4 t5, putL bs z ([⟨bs, 3, none⟩, ⟨bs, 4, none⟩, ⟨bs, 5, none⟩, ⟨bs, 6, none⟩, ⟨bs, 7, none⟩].zip vals) = { z with t1 := t1, t2 := t2, t3 := t3, t4 := t4, t5 := t5 } ∧ (vals.length = 5 → vals = [t1, t2, t3, t4, t5]) := by
  match vals with
  | [] => exact ⟨z.t1, z.t2, z.t3, z.t4, z.t5, rfl, fun h => by cases h⟩
  | [a] => exact ⟨a, z.t2, z.t3, z.t4, z.t5, by simp [putL, Sn.put], fun h => by cases h⟩
  | [a, b] => exact ⟨a, b, z.t3, z.t4, z.t5, by simp [putL, Sn.put], fun h => by cases h⟩
  | [a, b, d] => exact ⟨a, b, d, z.t4, z.t5, by simp [putL, Sn.put], fun h => by cases h⟩
  | [a, b, d, e] => exact ⟨a, b, d, e, z.t5, by simp [putL, Sn.put], fun h => by cases h⟩
  | a :: b :: d :: e :: f :: r => exact ⟨a, b, d, e, f, by simp [putL, Sn.put], fun h => by
      have : r = [] := by simpa using h
      rw [this]⟩
theorem put7 (bs : Nat) (z : Sn) (vals : List Int) : ∃ m1 m2 m3 m4 m5 m6 m7, putL bs z ([⟨bs, 8, none⟩, ⟨bs, 9, none⟩, ⟨bs, 10, none⟩, ⟨bs, 11, none⟩, ⟨bs, 12, none⟩, ⟨bs, 13, none⟩, ⟨bs, 14, none⟩].zip vals) = { z with m1 := m1, m2 := m2, m3 := m3, m4 := m4, m5 := m5, m6 := m6, m7 := m7 } ∧ (vals.length = 7 → vals = [m1, m2, m3, m4, m5, m6, m7]) := by
  match vals with
  | [] => exact ⟨z.m1, z.m2, z.m3, z.m4, z.m5, z.m6, z.m7, rfl, fun h => by cases h⟩
  | [a] => exact ⟨a, z.m2, z.m3, z.m4, z.m5, z.m6, z.m7, by simp [putL, Sn.put], fun h => by cases h⟩
  | [a, b] => exact ⟨a, b, z.m3, z.m4, z.m5, z.m6, z.m7, by simp [putL, Sn.put], fun h => by cases h⟩
  | [a, b, d] => exact ⟨a, b, d, z.m4, z.m5, z.m6, z.m7, by simp [putL, Sn.put], fun h => by cases h⟩
  | [a, b, d, e] => exact ⟨a, b, d, e, z.m5, z.m6, z.m7, by simp [putL, Sn.put], fun h => by cases h⟩
  | [a, b, d, e, f] => exact ⟨a, b, d, e, f, z.m6, z.m7, by simp [putL, Sn.put], fun h => by cases h⟩
  | [a, b, d, e, f, g] => exact ⟨a, b, d, e, f, g, z.m7, by simp [putL, Sn.put], fun h => by cases h⟩
  | a :: b :: d :: e :: f :: g :: i :: r => exact ⟨a, b, d, e, f, g, i, by simp [putL, Sn.put], fun h => by
      have : r = [] := by simpa using h
      rw [this]⟩
/-- The whole snap. -/
theorem snap_whole {s s1 s2 s3 s' : RdS} {v1 v2 v3 : List Int} {y : Sx} (h1 : Stp (lineP snapS) s s1 (fun a => a = v1 ∧ (bitZ y.s.bg = 0 ∨ bitZ y.s.bg = 1))) (e1 : s1.bad = false → v1 = [y.s.r, y.s.i, y.s.s, y.s.tm, bitZ y.s.bg, y.s.su])
    (h2 : Stp (lineP (rowS wState 5)) s1 s2 (fun a => a = v2)) (e2 : s2.bad = false → v2 = [y.s.t1, y.s.t2, y.s.t3, y.s.t4, y.s.t5]) (h3 : Stp (lineP (rowS wView 7)) s2 s3 (fun a => a = v3)) (e3 : s3.bad = false → v3 = [y.s.m1, y.s.m2, y.s.m3, y.s.m4, y.s.m5, y.s.m6, y.s.m7])
    (h4 : Stp hostP s3 s' (fun q => q = ([y.s.hi, y.s.lf, y.s.wt], bytesOf y.out, y.ms.map Mx.k))) : Stp snapP s s' (fun q => q = y.k) := by
  have h1' := h1.mono (Q := fun a => a = [y.s.r, y.s.i, y.s.s, y.s.tm, bitZ y.s.bg, y.s.su]) (fun e a ha => by rw [ha.1, e1 e])
  have h2' := h2.mono (Q := fun a => a = [y.s.t1, y.s.t2, y.s.t3, y.s.t4, y.s.t5]) (fun e a ha => by rw [ha, e2 e])
  have h3' := h3.mono (Q := fun a => a = [y.s.m1, y.s.m2, y.s.m3, y.s.m4, y.s.m5, y.s.m6, y.s.m7]) (fun e a ha => by rw [ha, e3 e])
  have H := h1'.bnd (h2'.bnd (h3'.bnd h4))
  refine ⟨H.1, fun hb => ?_⟩
  have hg := H.2 hb
  rw [snapP_bnd]
  generalize bnd (lineP snapS) (bnd (lineP (rowS wState 5)) (bnd (lineP (rowS wView 7)) hostP)) s.rest s.n = o at hg
  obtain ⟨o, m⟩ := o
  cases o with
  | none => exact hg
  | some p =>
    obtain ⟨⟨a, c, v, q⟩, r⟩ := p
    obtain ⟨h, o, ms⟩ := q
    obtain ⟨rfl, q1, q2, q3, q4⟩ := hg
    simp only at q1 q2 q3 q4
    subst q1 q2 q3
    simp only [Prod.mk.injEq] at q4
    obtain ⟨rfl, rfl, rfl⟩ := q4
    have eb : decide (bitZ y.s.bg = 1) = y.s.bg := by cases y.s.bg <;> rfl
    simp only [mkS, Option.map_some]
    refine ⟨rfl, ?_⟩
    unfold Sx.k
    rw [eb]
end Go.Proofs.YtjaaldeaknmmbaaDoor
namespace Go.Proofs.YtjaaldeaknmmbaaDoor
open Go.RowKit Go.Shelf

theorem OwnX.le {B B' : Nat} {W : World} {y : Sx} (h : OwnX B W y) (hB : B' ≤ B) : OwnX B' W y := ⟨own_le h.out hB, h.ob, own_le h.inn hB, fun m hm => ⟨own_le (h.each m hm).1 hB, (h.each m hm).2⟩⟩
theorem fr_setRow {W : World} {b : Nat} {t : TypeId} {old cs : Array Value} (_h : Blk W b t old) : Fr (fun j => j = b) W (W.setRow b cs) :=
  ⟨rfl, rfl, rfl, by simp [World.setRow], fun j hj hn => by simp [World.setRow, Array.getElem?_modify, Ne.symm hn]⟩
def z0 : Sn := ⟨0, 0, 0, 0, 0, 0, 0, 0, 0, 0, 0, 0, 0, 0, 0, 0, false, 0, 0, none, 0, 0, none, 0, 0, 0, 0⟩
def SnapPost (br : Nat) (s : RdS) (w : World) (e : Ending) (w' : World) : Prop :=
  ∃ (s' : RdS) (y : Sx), e = .returned (.agg (encS y.s).toArray) ∧ Blk w' br 52 (rdC s').toArray ∧ w.grownBy w' (some br) ∧ RdOk s' ∧ MaxLen w' ∧ OwnX w.heap.size w' y ∧ Stp snapP s s' (fun q => q = y.k)
set_option maxRecDepth 100000 in
set_option maxHeartbeats 3200000 in
theorem snap_any (br : Nat) (s : RdS) (w : World) (hb : Blk w br 52 (rdC s).toArray) (hm : MaxLen w) (h0 : br ≠ 0) (hok : RdOk s) : Calls Tryd.prog 15 #[.pointer (some ⟨br, 0, none⟩)] w (SnapPost br s w) := by
  have HW0 : Hid (0 < w.heap.size) := Nat.lt_of_le_of_lt (Nat.zero_le _) hb.lt
  have HPO : Hid (∀ (w' : World) (s' : RdS) (y : Sx), Blk w' br 52 (rdC s').toArray → Fr (fun j => j = br) w w' → RdOk s' → MaxLen w' → OwnX w.heap.size w' y → Stp snapP s s' (fun q => q = y.k) → SnapPost br s w (.returned (.agg (encS y.s).toArray)) w') := fun w' s' y a1 a2 a3 a4 a5 a6 => ⟨s', y, rfl, a1, a2.grownB, a3, a4, a5, a6⟩
  have HRB := Lib.hid hb
  have HM := Lib.hid hm
  have HOK := Lib.hid hok
  have HBRL : Hid (br < w.heap.size) := hb.lt
  generalize SnapPost br s w = POST at *
  clear hb hm hok
  go_enter Tryd.func15, Tryd.ntmps15
  go_upto_region 4 with fail
  obtain ⟨W0, hW0⟩ : ∃ W0, W0 = (((w.alloc (.cells #[.int .i64 0, .int .i64 0, .int .i64 0, .int .i64 0, .int .i64 0, .int .i64 0, .int .i64 0, .int .i64 0, .int .i64 0, .int .i64 0, .int .i64 0, .int .i64 0, .int .i64 0, .int .i64 0, .int .i64 0, .int .i64 0, .bool false, .int .i64 0, .int .i64 0, .slice none 0 0, .slice none 0 0, .int .i64 0, .int .i64 0] 43)).alloc (.cells #[.int .i64 0, .int .i64 0, .int .i64 0, .int .i64 0, .int .i64 0, .int .i64 0, .int .i64 0, .int .i64 0, .int .i64 0, .int .i64 0, .int .i64 0, .int .i64 0, .int .i64 0, .int .i64 0, .int .i64 0, .int .i64 0, .bool false, .int .i64 0, .int .i64 0, .slice none 0 0, .slice none 0 0, .int .i64 0, .int .i64 0] 43)).alloc (.cells #[.int .i64 0] 3)) := ⟨_, rfl⟩
  rw [← hW0]
  obtain ⟨b5, hb5⟩ : ∃ b, b = w.heap.size + 1 + 1 := ⟨_, rfl⟩
  rw [← hb5]
  obtain ⟨bs, hbs⟩ : ∃ b, b = w.heap.size + 1 := ⟨_, rfl⟩
  rw [← hbs]
  obtain ⟨b2, hb2⟩ : ∃ b, b = w.heap.size := ⟨_, rfl⟩
  rw [← hb2]
  have HBS : Hid (bs < w.heap.size → bs = br) := fun h => by omega
  have HB5 : Hid (w.heap.size ≤ b5) := by show _ ≤ _; omega
  have HBS0 : Hid (bs ≠ 0) := by show _ ≠ _; omega
  have HB50 : Hid (b5 ≠ 0) := by show _ ≠ _; omega
  have H2R : Hid (¬ b2 = br) := by have := HBRL.out; show ¬ _; omega
  have H2S : Hid (¬ b2 = bs) := by show ¬ _; omega
  have HB2L : Hid (w.heap.size ≤ b2) := by show _ ≤ _; omega
  have H25 : Hid (¬ b2 = b5) := by show ¬ _; omega
  have HS0 : Hid (HS br bs b5 (fun j => j = br) w W0.drew s z0 0) := by
    have e1 := (below1 w (.cells (encS z0).toArray 43)).alloc (by simp) (.cells (encS z0).toArray 43)
    have e2 := e1.alloc (by simp; omega) (.cells #[.int .i64 0] 3)
    have e3 : W0 = (((w.alloc (.cells (encS z0).toArray 43)).alloc (.cells (encS z0).toArray 43)).alloc (.cells #[.int .i64 0] 3)) := hW0
    rw [← e3] at e2
    have e4 := e2.drew
    refine ⟨HRB.out.keep e4, ?_, ?_, Fr.mono (Fr.below e4) (fun _ h => h.elim), HOK.out, HM.out.below e4⟩
    · have : Blk W0 bs 43 (encS z0).toArray := by rw [e3]; exact (Blk.new' (by simp; omega)).alloc _
      exact this
    · have : Blk W0 b5 3 #[.int .i64 0] := by rw [e3]; exact Blk.new' (by simp; omega)
      exact this
  have HR20 : Hid (Blk W0.drew b2 43 (encS z0).toArray) := by
    have e3 : W0 = (((w.alloc (.cells (encS z0).toArray 43)).alloc (.cells (encS z0).toArray 43)).alloc (.cells #[.int .i64 0] 3)) := hW0
    have : Blk W0 b2 43 (encS z0).toArray := by rw [e3]; exact ((Blk.new' (by omega)).alloc _).alloc _
    exact this
  clear hW0 hb5 hbs hb2 HRB HM HOK
  go_cut [24] from 7 to 24 (fun _ wx => ∃ (s1 : RdS) (v : List Int) (z1 : Sn) (bg : Int), Hid (HS br bs b5 (fun j => j = br) w wx s1 z1 bg) ∧ Hid (Blk wx b2 43 (encS z0).toArray) ∧ Hid (∃ r i s tm su, z1 = { z0 with r := r, i := i, s := s, tm := tm, su := su }) ∧
    Hid (Stp (lineP (rowS wSnap 6)) s s1 (fun a => a = v)) ∧ Hid (s1.bad = false → v = [z1.r, z1.i, z1.s, z1.tm, bg, z1.su]))
  case first =>
    have HLEN : Hid ((wordsS wSnap 6 s).2.length = 6) := words_len _ _ _
    have HWL : Hid (∀ x ∈ (wordsS wSnap 6 s).2, x.length ≤ 1000000000) := (HS0.out.ok.words wSnap 6).2
    have FIN1 : ∀ (Wc : World) (bb : Bool) (vals : List Int), Hid (HS br bs b5 (fun j => j = br) w Wc ⟨(wordsS wSnap 6 s).1.rest, (wordsS wSnap 6 s).1.n, bb⟩ (putL bs z0 (([⟨bs, 0, none⟩, ⟨bs, 1, none⟩, ⟨bs, 2, none⟩, ⟨bs, 15, none⟩, ⟨b5, 0, none⟩, ⟨bs, 17, none⟩] : List Addr).zip vals)) (oneL b5 0 (([⟨bs, 0, none⟩, ⟨bs, 1, none⟩, ⟨bs, 2, none⟩, ⟨bs, 15, none⟩, ⟨b5, 0, none⟩, ⟨bs, 17, none⟩] : List Addr).zip vals))) →
        Hid (Blk Wc b2 43 (encS z0).toArray) → Hid (bb = false → (wordsS wSnap 6 s).1.bad = false ∧ numsS ((wordsS wSnap 6 s).2.take 6) = some vals) → Hid (bb = true → (wordsS wSnap 6 s).1.bad = true ∨ numsS ((wordsS wSnap 6 s).2.take 6) = none) →
        ∃ (s1 : RdS) (v : List Int) (z1 : Sn) (bg : Int), Hid (HS br bs b5 (fun j => j = br) w Wc s1 z1 bg) ∧ Hid (Blk Wc b2 43 (encS z0).toArray) ∧ Hid (∃ r i s tm su, z1 = { z0 with r := r, i := i, s := s, tm := tm, su := su }) ∧
    Hid (Stp (lineP (rowS wSnap 6)) s s1 (fun a => a = v)) ∧ Hid (s1.bad = false → v = [z1.r, z1.i, z1.s, z1.tm, bg, z1.su]) := fun Wc bb vals h1 h2 h3 h4 => by
      obtain ⟨r, i, q, tm, su, bg, e1, e2, e3⟩ := put6 (bs := bs) (b4 := b5) (fun e => blk_neq HS0.out.sn HS0.out.one (by decide) e.symm) z0 0 vals
      rw [e1, e2] at h1
      exact ⟨_, vals, _, bg, h1, h2, Lib.hid ⟨r, i, q, tm, su, rfl⟩, Lib.hid (row_stp h3.out h4.out), Lib.hid (fun e => e3 (by rw [numsS_len (h3.out e).2, List.length_take, HLEN.out]; rfl))⟩
    refine wp_region_held_drew (S := (fun _ => True)) (by kernel_rfl) trivial (fun hHeld => ?_)
    (refine takeW (i := 0) (v := ?_) rfl (by kernel_rfl) (by kernel_rfl) (by kernel_rfl) (fun _ _ _ h => h) (by rfl) (by assumption) ?_ ?_; rotate_left; (intro W hW; (try dsimp only at hW); go_simp; try with_reducible rfl); (try simp only [Act.put, List.setIfInBounds_toArray, List.set_cons_zero, List.set_cons_succ]))
    (refine takeW (i := 1) (v := ?_) rfl (by kernel_rfl) (by kernel_rfl) (by kernel_rfl) (fun _ _ _ h => h) (by rfl) (by assumption) ?_ ?_; rotate_left; (intro W hW; (try dsimp only at hW); go_simp; try with_reducible rfl); (try simp only [Act.put, List.setIfInBounds_toArray, List.set_cons_zero, List.set_cons_succ]))
    (refine takeW (i := 3) (v := ?_) rfl (by kernel_rfl) (by kernel_rfl) (by kernel_rfl) (fun _ _ _ h => h) (by rfl) (by assumption) ?_ ?_; rotate_left; (intro W hW; (try dsimp only at hW); go_simp; try with_reducible rfl); (try simp only [Act.put, List.setIfInBounds_toArray, List.set_cons_zero, List.set_cons_succ]))
    (refine takeW (i := 4) (v := ?_) rfl (by kernel_rfl) (by kernel_rfl) (by kernel_rfl) (fun _ _ _ h => h) (by rfl) (by assumption) ?_ ?_; rotate_left; (intro W hW; (try dsimp only at hW); go_simp; try with_reducible rfl); (try simp only [Act.put, List.setIfInBounds_toArray, List.set_cons_zero, List.set_cons_succ]))
    (refine takeW (i := 5) (v := ?_) rfl (by kernel_rfl) (by kernel_rfl) (by kernel_rfl) (fun _ _ _ h => h) (by rfl) (by assumption) ?_ ?_; rotate_left; (intro W hW; (try dsimp only at hW); go_simp; try with_reducible rfl); (try simp only [Act.put, List.setIfInBounds_toArray, List.set_cons_zero, List.set_cons_succ]))
    (refine takeW (i := 6) (v := ?_) rfl (by kernel_rfl) (by kernel_rfl) (by kernel_rfl) (fun _ _ _ h => h) (by rfl) (by assumption) ?_ ?_; rotate_left; (intro W hW; (try dsimp only at hW); go_simp; try with_reducible rfl); (try simp only [Act.put, List.setIfInBounds_toArray, List.set_cons_zero, List.set_cons_succ]))
    (refine takeW (i := 7) (v := ?_) rfl (by kernel_rfl) (by kernel_rfl) (by kernel_rfl) (fun _ _ _ h => h) (by rfl) (by assumption) ?_ ?_; rotate_left; (intro W hW; (try dsimp only at hW); go_simp; try with_reducible rfl); (try simp only [Act.put, List.setIfInBounds_toArray, List.set_cons_zero, List.set_cons_succ]))
    (refine takeW (i := 8) (v := ?_) rfl (by kernel_rfl) (by kernel_rfl) (by kernel_rfl) (fun _ _ _ h => h) (by rfl) (by assumption) ?_ ?_; rotate_left; (intro W hW; (try dsimp only at hW); go_simp; try with_reducible rfl); (try simp only [Act.put, List.setIfInBounds_toArray, List.set_cons_zero, List.set_cons_succ]))
    (refine takeW (i := 9) (v := ?_) rfl (by kernel_rfl) (by kernel_rfl) (by kernel_rfl) (fun _ _ _ h => h) (by rfl) (by assumption) ?_ ?_; rotate_left; (intro W hW; (try dsimp only at hW); go_simp; try with_reducible rfl); (try simp only [Act.put, List.setIfInBounds_toArray, List.set_cons_zero, List.set_cons_succ]))
    (refine takeW (i := 10) (v := ?_) rfl (by kernel_rfl) (by kernel_rfl) (by kernel_rfl) (fun _ _ _ h => h) (by rfl) (by assumption) ?_ ?_; rotate_left; (intro W hW; (try dsimp only at hW); go_simp; try with_reducible rfl); (try simp only [Act.put, List.setIfInBounds_toArray, List.set_cons_zero, List.set_cons_succ]))
    (refine takeW (i := 11) (v := ?_) rfl (by kernel_rfl) (by kernel_rfl) (by kernel_rfl) (fun _ _ _ h => h) (by rfl) (by assumption) ?_ ?_; rotate_left; (intro W hW; (try dsimp only at hW); go_simp; try with_reducible rfl); (try simp only [Act.put, List.setIfInBounds_toArray, List.set_cons_zero, List.set_cons_succ]))
    (refine takeW (i := 12) (v := ?_) rfl (by kernel_rfl) (by kernel_rfl) (by kernel_rfl) (fun _ _ _ h => h) (by rfl) (by assumption) ?_ ?_; rotate_left; (intro W hW; (try dsimp only at hW); go_simp; try with_reducible rfl); (try simp only [Act.put, List.setIfInBounds_toArray, List.set_cons_zero, List.set_cons_succ]))
    (refine takeW (i := 13) (v := ?_) rfl (by kernel_rfl) (by kernel_rfl) (by kernel_rfl) (fun _ _ _ h => h) (by rfl) (by assumption) ?_ ?_; rotate_left; (intro W hW; (try dsimp only at hW); go_simp; try with_reducible rfl); (try simp only [Act.put, List.setIfInBounds_toArray, List.set_cons_zero, List.set_cons_succ]))
    (refine takeW (i := 14) (v := ?_) rfl (by kernel_rfl) (by kernel_rfl) (by kernel_rfl) (fun _ _ _ h => h) (by rfl) (by assumption) ?_ ?_; rotate_left; (intro W hW; (try dsimp only at hW); go_simp; try with_reducible rfl); (try simp only [Act.put, List.setIfInBounds_toArray, List.set_cons_zero, List.set_cons_succ]))
    (refine takeW (i := 15) (v := ?_) rfl (by kernel_rfl) (by kernel_rfl) (by kernel_rfl) (fun _ _ _ h => h) (by rfl) (by assumption) ?_ ?_; rotate_left; (intro W hW; (try dsimp only at hW); go_simp; try with_reducible rfl); (try simp only [Act.put, List.setIfInBounds_toArray, List.set_cons_zero, List.set_cons_succ]))
    refine takeC2 (i := 2) (j := 16) rfl rfl (by kernel_rfl) (by rfl) (by rfl) (fun K hK => ?_) (fun K hK => ?_)
    all_goals clear hHeld
    · go_simp
      refine (words_hs HS0.out rfl h0 wSnap 6 (by decide) (by decide)).mono ?_
      rintro e Wa ⟨lv, rfl, hw, hs, hfw, hk⟩
      have HSa := Lib.hid hs
      have HR2a : Hid (Blk Wa b2 43 (encS z0).toArray) := HR20.out.fr hk H2R.out
      have HLa := Lib.hid hw
      have HFb := Lib.hid hfw
      clear hw hs hfw hk
      refine hK.out _ _ trivial (fun hHeld => ?_)
      clear hK K hHeld
      (try simp only [Act.put, List.setIfInBounds_toArray, List.set_cons_zero, List.set_cons_succ])
      refine takeE (i := 16) rfl (by kernel_rfl) (by rfl) (exec_pS6 rfl rfl rfl rfl rfl rfl rfl ) ?_
      rintro va Wb ⟨hva, hra, hbl, hll⟩
      have HSb := Lib.hid (HSa.out.below hbl)
      have HR2b := Lib.hid (HR2a.out.keep hbl)
      have HLb := Lib.hid (HLa.out.below hbl)
      have HRb := Lib.hid hra
      have HVb := Lib.hid hva
      have HGb : Hid (Wa.heap.size ≠ br ∧ Wa.heap.size ≠ bs ∧ Wa.heap.size ≠ b5) := ⟨Nat.ne_of_gt HSa.out.rd.lt, Nat.ne_of_gt HSa.out.sn.lt, Nat.ne_of_gt HSa.out.one.lt⟩
      clear hva hra hbl hll HSa HR2a HLa
      refine ⟨trivial, ?_⟩
      (try simp only [Act.put, List.setIfInBounds_toArray, List.set_cons_zero, List.set_cons_succ])
      have HNN := Lib.hid (HSb.out.nums (A := [⟨bs, 0, none⟩, ⟨bs, 1, none⟩, ⟨bs, 2, none⟩, ⟨bs, 15, none⟩, ⟨b5, 0, none⟩, ⟨bs, 17, none⟩]) rfl HBS.out HB5.out h0 HBS0.out HB50.out HLb.out HFb.out HRb.out HVb.out HGb.out (List.forall_mem_cons.2 ⟨.inl ⟨0, rfl, by unfold numAt; omega⟩, (List.forall_mem_cons.2 ⟨.inl ⟨1, rfl, by unfold numAt; omega⟩, (List.forall_mem_cons.2 ⟨.inl ⟨2, rfl, by unfold numAt; omega⟩, (List.forall_mem_cons.2 ⟨.inl ⟨15, rfl, by unfold numAt; omega⟩, (List.forall_mem_cons.2 ⟨.inr rfl, (List.forall_mem_cons.2 ⟨.inl ⟨17, rfl, by unfold numAt; omega⟩, (fun a h => by cases h)⟩)⟩)⟩)⟩)⟩)⟩) (Nat.le_of_eq HLEN.out.symm) HWL.out)
      refine takeC (i := 17) rfl (by kernel_rfl) (by rfl) (fun K hK => ?_)
      go_simp
      refine HNN.out.mono ?_
      rintro e Wc ⟨rfl, bb, vals, hsc, hb0, hb1, hkc⟩
      have HSc := Lib.hid hsc
      have HB0 := Lib.hid hb0
      have HB1 := Lib.hid hb1
      have HR2c : Hid (Blk Wc b2 43 (encS z0).toArray) := HR2b.out.fr hkc (by rintro (e | e | e); exact H2R.out e; exact H2S.out e; exact H25.out e)
      clear hsc hb0 hb1 hkc HNN HLb HFb HRb HVb HGb HSb HR2b
      refine hK.out _ _ trivial (fun hHeld => ?_)
      clear hK K
      (try simp only [Act.put, List.setIfInBounds_toArray, List.set_cons_zero, List.set_cons_succ])
      refine wpAnyH_done (by kernel_rfl) ?_ _
      clear hHeld
      go_wp2_with fail
      go_meet
      exact FIN1 _ _ _ HSc HR2c HB0 HB1
    · refine wp_ofE hK (exec_pS6 rfl rfl rfl rfl rfl rfl rfl ) ?_
      rintro va Wa ⟨hva, hra, hbl, hll⟩
      have HSa := Lib.hid (HS0.out.below hbl)
      have HR2a := Lib.hid (HR20.out.keep hbl)
      have HRa := Lib.hid hra
      have HVb := Lib.hid hva
      have HGb : Hid (W0.heap.size ≠ br ∧ W0.heap.size ≠ bs ∧ W0.heap.size ≠ b5) := ⟨Nat.ne_of_gt HS0.out.rd.lt, Nat.ne_of_gt HS0.out.sn.lt, Nat.ne_of_gt HS0.out.one.lt⟩
      clear hva hra hbl hll
      refine ⟨trivial, ?_⟩
      clear hK K
      (try simp only [Act.put, List.setIfInBounds_toArray, List.set_cons_zero, List.set_cons_succ])
      refine takeC (i := 2) rfl (by kernel_rfl) (by rfl) (fun K hK => ?_)
      go_simp
      refine (words_hs HSa.out rfl h0 wSnap 6 (by decide) (by decide)).mono ?_
      rintro e Wb ⟨lv, rfl, hw, hs, hfw, hk⟩
      have HSb := Lib.hid hs
      have HR2b : Hid (Blk Wb b2 43 (encS z0).toArray) := HR2a.out.fr hk H2R.out
      have HLb := Lib.hid hw
      have HFb := Lib.hid hfw
      have HRb := Lib.hid (Rd.frs HRa.out hk (fun g o n c e h => HGb.out.1 (by rw [HVb.out] at e; simp only [Value.slice.injEq, Option.some.injEq, Addr.mk.injEq, and_true] at e; exact e.1.1.trans h)))
      clear hw hs hfw hk HSa HR2a HRa
      refine hK.out _ _ trivial (fun hHeld => ?_)
      clear hK K hHeld
      (try simp only [Act.put, List.setIfInBounds_toArray, List.set_cons_zero, List.set_cons_succ])
      have HNN := Lib.hid (HSb.out.nums (A := [⟨bs, 0, none⟩, ⟨bs, 1, none⟩, ⟨bs, 2, none⟩, ⟨bs, 15, none⟩, ⟨b5, 0, none⟩, ⟨bs, 17, none⟩]) rfl HBS.out HB5.out h0 HBS0.out HB50.out HLb.out HFb.out HRb.out HVb.out HGb.out (List.forall_mem_cons.2 ⟨.inl ⟨0, rfl, by unfold numAt; omega⟩, (List.forall_mem_cons.2 ⟨.inl ⟨1, rfl, by unfold numAt; omega⟩, (List.forall_mem_cons.2 ⟨.inl ⟨2, rfl, by unfold numAt; omega⟩, (List.forall_mem_cons.2 ⟨.inl ⟨15, rfl, by unfold numAt; omega⟩, (List.forall_mem_cons.2 ⟨.inr rfl, (List.forall_mem_cons.2 ⟨.inl ⟨17, rfl, by unfold numAt; omega⟩, (fun a h => by cases h)⟩)⟩)⟩)⟩)⟩)⟩) (Nat.le_of_eq HLEN.out.symm) HWL.out)
      refine takeC (i := 17) rfl (by kernel_rfl) (by rfl) (fun K hK => ?_)
      go_simp
      refine HNN.out.mono ?_
      rintro e Wc ⟨rfl, bb, vals, hsc, hb0, hb1, hkc⟩
      have HSc := Lib.hid hsc
      have HB0 := Lib.hid hb0
      have HB1 := Lib.hid hb1
      have HR2c : Hid (Blk Wc b2 43 (encS z0).toArray) := HR2b.out.fr hkc (by rintro (e | e | e); exact H2R.out e; exact H2S.out e; exact H25.out e)
      clear hsc hb0 hb1 hkc HNN HLb HFb HRb HVb HGb HSb HR2b
      refine hK.out _ _ trivial (fun hHeld => ?_)
      clear hK K
      (try simp only [Act.put, List.setIfInBounds_toArray, List.set_cons_zero, List.set_cons_succ])
      refine wpAnyH_done (by kernel_rfl) ?_ _
      clear hHeld
      go_wp2_with fail
      go_meet
      exact FIN1 _ _ _ HSc HR2c HB0 HB1
  case rest =>
    rename World => W1
    obtain ⟨s1, v1, z1, bg, HS1, HR1, HZ1, HST1, HV1⟩ := hcut
    clear HS0 HR20
    have d4 : W1.cell? ⟨b5, 0, none⟩ = some (.int .i64 bg) := HS1.out.one.cell 0
    go_upto_region 5 with fail
    go_cut [30] from 25 to 30 (fun t wx => t = .bool (decide (bg ≠ 0 ∧ bg ≠ 1)) ∧ wx = W1)
    case first =>
      by_cases h1 : bg = 0
      · subst h1
        go_wp2_with fail
        go_meet
        exact ⟨by simp, rfl⟩
      · have hb1 : (bg == 0) = false := by simp [h1]
        have hc1 : (bg != 0) = true := by simp [h1]
        by_cases h2 : bg = 1
        · subst h2
          go_wp2_with fail
          go_meet
          exact ⟨by simp, rfl⟩
        · have hb2 : (bg == 1) = false := by simp [h2]
          have hc2 : (bg != 1) = true := by simp [h2]
          go_wp2_with fail
          go_meet
          exact ⟨by simp [h1, h2], rfl⟩
    case rest =>
      obtain ⟨rfl, rfl⟩ := hcut
      obtain ⟨tb, htb⟩ : ∃ tb, tb = decide (bg ≠ 0 ∧ bg ≠ 1) := ⟨_, rfl⟩
      rw [← htb]
      have HTB := Lib.hid htb
      clear htb
      rename World => W1
      have d2 : W1.cell? ⟨br, 2, none⟩ = some (.bool s1.bad) := HS1.out.rd.list0 rfl
      have f2 : W1.frozen? ⟨br, 2, none⟩ = false := HS1.out.rd.frozen 2
      go_upto_if 30 with fail
      go_cut [32] from 31 to 33 (fun _ wx => Hid (HS br bs b5 (fun j => j = br) w wx (if bg ≠ 0 ∧ bg ≠ 1 then ⟨s1.rest, s1.n, true⟩ else s1) z1 bg) ∧ Hid (Blk wx b2 43 (encS z0).toArray))
      case first =>
        cases tb with
        | true =>
          go_wp2_with fail
          go_meet
          exact ⟨by rw [if_pos (of_decide_eq_true HTB.out.symm)]; exact HS1.out.setBad rfl h0, HR1.out.far H2R.out _⟩
        | false =>
          go_wp2_with fail
          go_meet
          exact ⟨by rw [if_neg (of_decide_eq_false HTB.out.symm)]; exact HS1, HR1⟩
      case rest =>
        rename World => W2
        obtain ⟨HS2', HR2⟩ := hcut
        have HST2' := Lib.hid (snap_stp HST1.out (bg := bg) (fun e => by rw [HV1.out e]; rfl))
        have HV2' : Hid ((if bg ≠ 0 ∧ bg ≠ 1 then (⟨s1.rest, s1.n, true⟩ : RdS) else s1).bad = false → v1 = [z1.r, z1.i, z1.s, z1.tm, bg, z1.su] ∧ (bg = 0 ∨ bg = 1)) := fun e => by
          split at e
          · cases e
          · exact ⟨HV1.out e, by omega⟩
        obtain ⟨s2, hs2⟩ : ∃ s2, s2 = (if bg ≠ 0 ∧ bg ≠ 1 then (⟨s1.rest, s1.n, true⟩ : RdS) else s1) := ⟨_, rfl⟩
        rw [← hs2] at HS2' HST2' HV2'
        have HS2 := HS2'
        have HST2 := HST2'
        have HV2 := HV2'
        clear hs2 HS2' HST2' HV2' HS1 HR1 HST1 HV1 d2 f2 d4
        have d4 : W2.cell? ⟨b5, 0, none⟩ = some (.int .i64 bg) := HS2.out.one.cell 0
        have e16 : W2.cell? ⟨bs, 16, none⟩ = some (.bool z1.bg) := HS2.out.sn.list0 rfl
        have f16 : W2.frozen? ⟨bs, 16, none⟩ = false := HS2.out.sn.frozen 16
        go_upto_region 8 with fail
        obtain ⟨z2, hz2⟩ : ∃ z2 : Sn, z2 = { z1 with bg := bg == 1 } := ⟨_, rfl⟩
        obtain ⟨W0, hW0⟩ : ∃ W3, W3 = W2.setCell ⟨bs, 16, none⟩ (.bool (bg == 1)) := ⟨_, rfl⟩
        rw [← hW0]
        have HS0 : Hid (HS br bs b5 (fun j => j = br) w W0.drew s2 z2 bg) := by rw [hW0, hz2]; exact (HS2.out.setBg HBS.out HBS0.out (bg == 1)).drew
        have HR20 : Hid (Blk W0.drew b2 43 (encS z0).toArray) := by rw [hW0]; exact HR2.out.far H2S.out _
        have HZ2 := Lib.hid hz2
        clear hz2 hW0 HS2 HR2 d4 e16 f16
        go_cut [63] from 39 to 63 (fun _ wx => ∃ (sn : RdS) (v : List Int) (zn : Sn), Hid (HS br bs b5 (fun j => j = br) w wx sn zn bg) ∧ Hid (Blk wx b2 43 (encS z0).toArray) ∧ Hid (∃ t1 t2 t3 t4 t5, zn = { z2 with t1 := t1, t2 := t2, t3 := t3, t4 := t4, t5 := t5 }) ∧ Hid (Stp (lineP (rowS wState 5)) s2 sn (fun a => a = v)) ∧ Hid (sn.bad = false → v = [zn.t1, zn.t2, zn.t3, zn.t4, zn.t5]))
        case first =>
          have HLEN : Hid ((wordsS wState 5 s2).2.length = 5) := words_len _ _ _
          have HWL : Hid (∀ x ∈ (wordsS wState 5 s2).2, x.length ≤ 1000000000) := (HS0.out.ok.words wState 5).2
          have FIN2 : ∀ (Wc : World) (bb : Bool) (vals : List Int), Hid (HS br bs b5 (fun j => j = br) w Wc ⟨(wordsS wState 5 s2).1.rest, (wordsS wState 5 s2).1.n, bb⟩ (putL bs z2 (([⟨bs, 3, none⟩, ⟨bs, 4, none⟩, ⟨bs, 5, none⟩, ⟨bs, 6, none⟩, ⟨bs, 7, none⟩] : List Addr).zip vals)) (oneL b5 bg (([⟨bs, 3, none⟩, ⟨bs, 4, none⟩, ⟨bs, 5, none⟩, ⟨bs, 6, none⟩, ⟨bs, 7, none⟩] : List Addr).zip vals))) →
              Hid (Blk Wc b2 43 (encS z0).toArray) → Hid (bb = false → (wordsS wState 5 s2).1.bad = false ∧ numsS ((wordsS wState 5 s2).2.take 5) = some vals) → Hid (bb = true → (wordsS wState 5 s2).1.bad = true ∨ numsS ((wordsS wState 5 s2).2.take 5) = none) → ∃ (sn : RdS) (v : List Int) (zn : Sn), Hid (HS br bs b5 (fun j => j = br) w Wc sn zn bg) ∧ Hid (Blk Wc b2 43 (encS z0).toArray) ∧ Hid (∃ t1 t2 t3 t4 t5, zn = { z2 with t1 := t1, t2 := t2, t3 := t3, t4 := t4, t5 := t5 }) ∧ Hid (Stp (lineP (rowS wState 5)) s2 sn (fun a => a = v)) ∧ Hid (sn.bad = false → v = [zn.t1, zn.t2, zn.t3, zn.t4, zn.t5]) := fun Wc bb vals h1 h2 h3 h4 => by
            obtain ⟨t1, t2, t3, t4, t5, e1, e3⟩ := put5 bs z2 vals
            have e2 : oneL b5 bg (([⟨bs, 3, none⟩, ⟨bs, 4, none⟩, ⟨bs, 5, none⟩, ⟨bs, 6, none⟩, ⟨bs, 7, none⟩] : List Addr).zip vals) = bg := oneL_far fun p hp e => by
              have q1 := (List.of_mem_zip hp).1
              have q2 : p.1.block = bs := by simp only [List.mem_cons, List.not_mem_nil, or_false] at q1; rcases q1 with h | h | h | h | h <;> rw [h]
              exact blk_neq HS0.out.sn HS0.out.one (by decide) (q2.symm.trans e)
            rw [e1, e2] at h1
            exact ⟨_, vals, _, h1, h2, Lib.hid ⟨_, _, _, _, _, rfl⟩, Lib.hid (row_stp h3.out h4.out), Lib.hid (fun e => e3 (by rw [numsS_len (h3.out e).2, List.length_take, HLEN.out]; rfl))⟩
          refine wp_region_held_drew (S := (fun _ => True)) (by kernel_rfl) trivial (fun hHeld => ?_)
          (refine takeW (i := 0) (v := ?_) rfl (by kernel_rfl) (by kernel_rfl) (by kernel_rfl) (fun _ _ _ h => h) (by rfl) (by assumption) ?_ ?_; rotate_left; (intro W hW; (try dsimp only at hW); go_simp; try with_reducible rfl); (try simp only [Act.put, List.setIfInBounds_toArray, List.set_cons_zero, List.set_cons_succ]))
          (refine takeW (i := 1) (v := ?_) rfl (by kernel_rfl) (by kernel_rfl) (by kernel_rfl) (fun _ _ _ h => h) (by rfl) (by assumption) ?_ ?_; rotate_left; (intro W hW; (try dsimp only at hW); go_simp; try with_reducible rfl); (try simp only [Act.put, List.setIfInBounds_toArray, List.set_cons_zero, List.set_cons_succ]))
          (refine takeW (i := 3) (v := ?_) rfl (by kernel_rfl) (by kernel_rfl) (by kernel_rfl) (fun _ _ _ h => h) (by rfl) (by assumption) ?_ ?_; rotate_left; (intro W hW; (try dsimp only at hW); go_simp; try with_reducible rfl); (try simp only [Act.put, List.setIfInBounds_toArray, List.set_cons_zero, List.set_cons_succ]))
          (refine takeW (i := 4) (v := ?_) rfl (by kernel_rfl) (by kernel_rfl) (by kernel_rfl) (fun _ _ _ h => h) (by rfl) (by assumption) ?_ ?_; rotate_left; (intro W hW; (try dsimp only at hW); go_simp; try with_reducible rfl); (try simp only [Act.put, List.setIfInBounds_toArray, List.set_cons_zero, List.set_cons_succ]))
          (refine takeW (i := 5) (v := ?_) rfl (by kernel_rfl) (by kernel_rfl) (by kernel_rfl) (fun _ _ _ h => h) (by rfl) (by assumption) ?_ ?_; rotate_left; (intro W hW; (try dsimp only at hW); go_simp; try with_reducible rfl); (try simp only [Act.put, List.setIfInBounds_toArray, List.set_cons_zero, List.set_cons_succ]))
          (refine takeW (i := 6) (v := ?_) rfl (by kernel_rfl) (by kernel_rfl) (by kernel_rfl) (fun _ _ _ h => h) (by rfl) (by assumption) ?_ ?_; rotate_left; (intro W hW; (try dsimp only at hW); go_simp; try with_reducible rfl); (try simp only [Act.put, List.setIfInBounds_toArray, List.set_cons_zero, List.set_cons_succ]))
          (refine takeW (i := 7) (v := ?_) rfl (by kernel_rfl) (by kernel_rfl) (by kernel_rfl) (fun _ _ _ h => h) (by rfl) (by assumption) ?_ ?_; rotate_left; (intro W hW; (try dsimp only at hW); go_simp; try with_reducible rfl); (try simp only [Act.put, List.setIfInBounds_toArray, List.set_cons_zero, List.set_cons_succ]))
          (refine takeW (i := 8) (v := ?_) rfl (by kernel_rfl) (by kernel_rfl) (by kernel_rfl) (fun _ _ _ h => h) (by rfl) (by assumption) ?_ ?_; rotate_left; (intro W hW; (try dsimp only at hW); go_simp; try with_reducible rfl); (try simp only [Act.put, List.setIfInBounds_toArray, List.set_cons_zero, List.set_cons_succ]))
          (refine takeW (i := 9) (v := ?_) rfl (by kernel_rfl) (by kernel_rfl) (by kernel_rfl) (fun _ _ _ h => h) (by rfl) (by assumption) ?_ ?_; rotate_left; (intro W hW; (try dsimp only at hW); go_simp; try with_reducible rfl); (try simp only [Act.put, List.setIfInBounds_toArray, List.set_cons_zero, List.set_cons_succ]))
          (refine takeW (i := 10) (v := ?_) rfl (by kernel_rfl) (by kernel_rfl) (by kernel_rfl) (fun _ _ _ h => h) (by rfl) (by assumption) ?_ ?_; rotate_left; (intro W hW; (try dsimp only at hW); go_simp; try with_reducible rfl); (try simp only [Act.put, List.setIfInBounds_toArray, List.set_cons_zero, List.set_cons_succ]))
          (refine takeW (i := 11) (v := ?_) rfl (by kernel_rfl) (by kernel_rfl) (by kernel_rfl) (fun _ _ _ h => h) (by rfl) (by assumption) ?_ ?_; rotate_left; (intro W hW; (try dsimp only at hW); go_simp; try with_reducible rfl); (try simp only [Act.put, List.setIfInBounds_toArray, List.set_cons_zero, List.set_cons_succ]))
          (refine takeW (i := 12) (v := ?_) rfl (by kernel_rfl) (by kernel_rfl) (by kernel_rfl) (fun _ _ _ h => h) (by rfl) (by assumption) ?_ ?_; rotate_left; (intro W hW; (try dsimp only at hW); go_simp; try with_reducible rfl); (try simp only [Act.put, List.setIfInBounds_toArray, List.set_cons_zero, List.set_cons_succ]))
          (refine takeW (i := 13) (v := ?_) rfl (by kernel_rfl) (by kernel_rfl) (by kernel_rfl) (fun _ _ _ h => h) (by rfl) (by assumption) ?_ ?_; rotate_left; (intro W hW; (try dsimp only at hW); go_simp; try with_reducible rfl); (try simp only [Act.put, List.setIfInBounds_toArray, List.set_cons_zero, List.set_cons_succ]))
          (refine takeW (i := 14) (v := ?_) rfl (by kernel_rfl) (by kernel_rfl) (by kernel_rfl) (fun _ _ _ h => h) (by rfl) (by assumption) ?_ ?_; rotate_left; (intro W hW; (try dsimp only at hW); go_simp; try with_reducible rfl); (try simp only [Act.put, List.setIfInBounds_toArray, List.set_cons_zero, List.set_cons_succ]))
          (refine takeW (i := 15) (v := ?_) rfl (by kernel_rfl) (by kernel_rfl) (by kernel_rfl) (fun _ _ _ h => h) (by rfl) (by assumption) ?_ ?_; rotate_left; (intro W hW; (try dsimp only at hW); go_simp; try with_reducible rfl); (try simp only [Act.put, List.setIfInBounds_toArray, List.set_cons_zero, List.set_cons_succ]))
          (refine takeW (i := 16) (v := ?_) rfl (by kernel_rfl) (by kernel_rfl) (by kernel_rfl) (fun _ _ _ h => h) (by rfl) (by assumption) ?_ ?_; rotate_left; (intro W hW; (try dsimp only at hW); go_simp; try with_reducible rfl); (try simp only [Act.put, List.setIfInBounds_toArray, List.set_cons_zero, List.set_cons_succ]))
          (refine takeW (i := 17) (v := ?_) rfl (by kernel_rfl) (by kernel_rfl) (by kernel_rfl) (fun _ _ _ h => h) (by rfl) (by assumption) ?_ ?_; rotate_left; (intro W hW; (try dsimp only at hW); go_simp; try with_reducible rfl); (try simp only [Act.put, List.setIfInBounds_toArray, List.set_cons_zero, List.set_cons_succ]))
          (refine takeW (i := 18) (v := ?_) rfl (by kernel_rfl) (by kernel_rfl) (by kernel_rfl) (fun _ _ _ h => h) (by rfl) (by assumption) ?_ ?_; rotate_left; (intro W hW; (try dsimp only at hW); go_simp; try with_reducible rfl); (try simp only [Act.put, List.setIfInBounds_toArray, List.set_cons_zero, List.set_cons_succ]))
          (refine takeW (i := 19) (v := ?_) rfl (by kernel_rfl) (by kernel_rfl) (by kernel_rfl) (fun _ _ _ h => h) (by rfl) (by assumption) ?_ ?_; rotate_left; (intro W hW; (try dsimp only at hW); go_simp; try with_reducible rfl); (try simp only [Act.put, List.setIfInBounds_toArray, List.set_cons_zero, List.set_cons_succ]))
          (refine takeW (i := 20) (v := ?_) rfl (by kernel_rfl) (by kernel_rfl) (by kernel_rfl) (fun _ _ _ h => h) (by rfl) (by assumption) ?_ ?_; rotate_left; (intro W hW; (try dsimp only at hW); go_simp; try with_reducible rfl); (try simp only [Act.put, List.setIfInBounds_toArray, List.set_cons_zero, List.set_cons_succ]))
          (refine takeW (i := 21) (v := ?_) rfl (by kernel_rfl) (by kernel_rfl) (by kernel_rfl) (fun _ _ _ h => h) (by rfl) (by assumption) ?_ ?_; rotate_left; (intro W hW; (try dsimp only at hW); go_simp; try with_reducible rfl); (try simp only [Act.put, List.setIfInBounds_toArray, List.set_cons_zero, List.set_cons_succ]))
          (refine takeW (i := 22) (v := ?_) rfl (by kernel_rfl) (by kernel_rfl) (by kernel_rfl) (fun _ _ _ h => h) (by rfl) (by assumption) ?_ ?_; rotate_left; (intro W hW; (try dsimp only at hW); go_simp; try with_reducible rfl); (try simp only [Act.put, List.setIfInBounds_toArray, List.set_cons_zero, List.set_cons_succ]))
          refine takeC2 (i := 2) (j := 23) rfl rfl (by kernel_rfl) (by rfl) (by rfl) (fun K hK => ?_) (fun K hK => ?_)
          all_goals clear hHeld
          · go_simp
            refine (words_hs HS0.out rfl h0 wState 5 (by decide) (by decide)).mono ?_
            rintro e Wa ⟨lv, rfl, hw, hs, hfw, hk⟩
            have HSa := Lib.hid hs
            have HR2a : Hid (Blk Wa b2 43 (encS z0).toArray) := HR20.out.fr hk H2R.out
            have HLa := Lib.hid hw
            have HFb := Lib.hid hfw
            clear hw hs hfw hk
            refine hK.out _ _ trivial (fun hHeld => ?_)
            clear hK K hHeld
            (try simp only [Act.put, List.setIfInBounds_toArray, List.set_cons_zero, List.set_cons_succ])
            refine takeE (i := 23) rfl (by kernel_rfl) (by rfl) (exec_pS5 rfl rfl rfl rfl rfl rfl ) ?_
            rintro va Wb ⟨hva, hra, hbl, hll⟩
            have HSb := Lib.hid (HSa.out.below hbl)
            have HR2b := Lib.hid (HR2a.out.keep hbl)
            have HLb := Lib.hid (HLa.out.below hbl)
            have HRb := Lib.hid hra
            have HVb := Lib.hid hva
            have HGb : Hid (Wa.heap.size ≠ br ∧ Wa.heap.size ≠ bs ∧ Wa.heap.size ≠ b5) := ⟨Nat.ne_of_gt HSa.out.rd.lt, Nat.ne_of_gt HSa.out.sn.lt, Nat.ne_of_gt HSa.out.one.lt⟩
            clear hva hra hbl hll HSa HR2a HLa
            refine ⟨trivial, ?_⟩
            (try simp only [Act.put, List.setIfInBounds_toArray, List.set_cons_zero, List.set_cons_succ])
            have HNN := Lib.hid (HSb.out.nums (A := [⟨bs, 3, none⟩, ⟨bs, 4, none⟩, ⟨bs, 5, none⟩, ⟨bs, 6, none⟩, ⟨bs, 7, none⟩]) rfl HBS.out HB5.out h0 HBS0.out HB50.out HLb.out HFb.out HRb.out HVb.out HGb.out (List.forall_mem_cons.2 ⟨.inl ⟨3, rfl, by unfold numAt; omega⟩, (List.forall_mem_cons.2 ⟨.inl ⟨4, rfl, by unfold numAt; omega⟩, (List.forall_mem_cons.2 ⟨.inl ⟨5, rfl, by unfold numAt; omega⟩, (List.forall_mem_cons.2 ⟨.inl ⟨6, rfl, by unfold numAt; omega⟩, (List.forall_mem_cons.2 ⟨.inl ⟨7, rfl, by unfold numAt; omega⟩, (fun a h => by cases h)⟩)⟩)⟩)⟩)⟩) (Nat.le_of_eq HLEN.out.symm) HWL.out)
            refine takeC (i := 24) rfl (by kernel_rfl) (by rfl) (fun K hK => ?_)
            go_simp
            refine HNN.out.mono ?_
            rintro e Wc ⟨rfl, bb, vals, hsc, hb0, hb1, hkc⟩
            have HSc := Lib.hid hsc
            have HB0 := Lib.hid hb0
            have HB1 := Lib.hid hb1
            have HR2c : Hid (Blk Wc b2 43 (encS z0).toArray) := HR2b.out.fr hkc (by rintro (e | e | e); exact H2R.out e; exact H2S.out e; exact H25.out e)
            clear hsc hb0 hb1 hkc HNN HLb HFb HRb HVb HGb HSb HR2b
            refine hK.out _ _ trivial (fun hHeld => ?_)
            clear hK K
            (try simp only [Act.put, List.setIfInBounds_toArray, List.set_cons_zero, List.set_cons_succ])
            refine wpAnyH_done (by kernel_rfl) ?_ _
            clear hHeld
            go_wp2_with fail
            go_meet
            exact FIN2 _ _ _ HSc HR2c HB0 HB1
          · refine wp_ofE hK (exec_pS5 rfl rfl rfl rfl rfl rfl ) ?_
            rintro va Wa ⟨hva, hra, hbl, hll⟩
            have HSa := Lib.hid (HS0.out.below hbl)
            have HR2a := Lib.hid (HR20.out.keep hbl)
            have HRa := Lib.hid hra
            have HVb := Lib.hid hva
            have HGb : Hid (W0.heap.size ≠ br ∧ W0.heap.size ≠ bs ∧ W0.heap.size ≠ b5) := ⟨Nat.ne_of_gt HS0.out.rd.lt, Nat.ne_of_gt HS0.out.sn.lt, Nat.ne_of_gt HS0.out.one.lt⟩
            clear hva hra hbl hll
            refine ⟨trivial, ?_⟩
            clear hK K
            (try simp only [Act.put, List.setIfInBounds_toArray, List.set_cons_zero, List.set_cons_succ])
            refine takeC (i := 2) rfl (by kernel_rfl) (by rfl) (fun K hK => ?_)
            go_simp
            refine (words_hs HSa.out rfl h0 wState 5 (by decide) (by decide)).mono ?_
            rintro e Wb ⟨lv, rfl, hw, hs, hfw, hk⟩
            have HSb := Lib.hid hs
            have HR2b : Hid (Blk Wb b2 43 (encS z0).toArray) := HR2a.out.fr hk H2R.out
            have HLb := Lib.hid hw
            have HFb := Lib.hid hfw
            have HRb := Lib.hid (Rd.frs HRa.out hk (fun g o n c e h => HGb.out.1 (by rw [HVb.out] at e; simp only [Value.slice.injEq, Option.some.injEq, Addr.mk.injEq, and_true] at e; exact e.1.1.trans h)))
            clear hw hs hfw hk HSa HR2a HRa
            refine hK.out _ _ trivial (fun hHeld => ?_)
            clear hK K hHeld
            (try simp only [Act.put, List.setIfInBounds_toArray, List.set_cons_zero, List.set_cons_succ])
            have HNN := Lib.hid (HSb.out.nums (A := [⟨bs, 3, none⟩, ⟨bs, 4, none⟩, ⟨bs, 5, none⟩, ⟨bs, 6, none⟩, ⟨bs, 7, none⟩]) rfl HBS.out HB5.out h0 HBS0.out HB50.out HLb.out HFb.out HRb.out HVb.out HGb.out (List.forall_mem_cons.2 ⟨.inl ⟨3, rfl, by unfold numAt; omega⟩, (List.forall_mem_cons.2 ⟨.inl ⟨4, rfl, by unfold numAt; omega⟩, (List.forall_mem_cons.2 ⟨.inl ⟨5, rfl, by unfold numAt; omega⟩, (List.forall_mem_cons.2 ⟨.inl ⟨6, rfl, by unfold numAt; omega⟩, (List.forall_mem_cons.2 ⟨.inl ⟨7, rfl, by unfold numAt; omega⟩, (fun a h => by cases h)⟩)⟩)⟩)⟩)⟩) (Nat.le_of_eq HLEN.out.symm) HWL.out)
            refine takeC (i := 24) rfl (by kernel_rfl) (by rfl) (fun K hK => ?_)
            go_simp
            refine HNN.out.mono ?_
            rintro e Wc ⟨rfl, bb, vals, hsc, hb0, hb1, hkc⟩
            have HSc := Lib.hid hsc
            have HB0 := Lib.hid hb0
            have HB1 := Lib.hid hb1
            have HR2c : Hid (Blk Wc b2 43 (encS z0).toArray) := HR2b.out.fr hkc (by rintro (e | e | e); exact H2R.out e; exact H2S.out e; exact H25.out e)
            clear hsc hb0 hb1 hkc HNN HLb HFb HRb HVb HGb HSb HR2b
            refine hK.out _ _ trivial (fun hHeld => ?_)
            clear hK K
            (try simp only [Act.put, List.setIfInBounds_toArray, List.set_cons_zero, List.set_cons_succ])
            refine wpAnyH_done (by kernel_rfl) ?_ _
            clear hHeld
            go_wp2_with fail
            go_meet
            exact FIN2 _ _ _ HSc HR2c HB0 HB1
        case rest =>
          rename World => W0
          obtain ⟨s3, v3, z3, HS0', HR20', HZ3, HST3, HV3⟩ := hcut
          clear HS0 HR20
          have HS0 := Lib.hid HS0'.out.drew
          have HR20 : Hid (Blk W0.drew b2 43 (encS z0).toArray) := HR20'
          clear HS0' HR20'
          go_upto_region 9 with fail
          go_cut [96] from 64 to 96 (fun _ wx => ∃ (sn : RdS) (v : List Int) (zn : Sn), Hid (HS br bs b5 (fun j => j = br) w wx sn zn bg) ∧ Hid (Blk wx b2 43 (encS z0).toArray) ∧ Hid (∃ m1 m2 m3 m4 m5 m6 m7, zn = { z3 with m1 := m1, m2 := m2, m3 := m3, m4 := m4, m5 := m5, m6 := m6, m7 := m7 }) ∧ Hid (Stp (lineP (rowS wView 7)) s3 sn (fun a => a = v)) ∧ Hid (sn.bad = false → v = [zn.m1, zn.m2, zn.m3, zn.m4, zn.m5, zn.m6, zn.m7]))
          case first =>
            have HLEN : Hid ((wordsS wView 7 s3).2.length = 7) := words_len _ _ _
            have HWL : Hid (∀ x ∈ (wordsS wView 7 s3).2, x.length ≤ 1000000000) := (HS0.out.ok.words wView 7).2
            have FIN3 : ∀ (Wc : World) (bb : Bool) (vals : List Int), Hid (HS br bs b5 (fun j => j = br) w Wc ⟨(wordsS wView 7 s3).1.rest, (wordsS wView 7 s3).1.n, bb⟩ (putL bs z3 (([⟨bs, 8, none⟩, ⟨bs, 9, none⟩, ⟨bs, 10, none⟩, ⟨bs, 11, none⟩, ⟨bs, 12, none⟩, ⟨bs, 13, none⟩, ⟨bs, 14, none⟩] : List Addr).zip vals)) (oneL b5 bg (([⟨bs, 8, none⟩, ⟨bs, 9, none⟩, ⟨bs, 10, none⟩, ⟨bs, 11, none⟩, ⟨bs, 12, none⟩, ⟨bs, 13, none⟩, ⟨bs, 14, none⟩] : List Addr).zip vals))) →
                Hid (Blk Wc b2 43 (encS z0).toArray) → Hid (bb = false → (wordsS wView 7 s3).1.bad = false ∧ numsS ((wordsS wView 7 s3).2.take 7) = some vals) → Hid (bb = true → (wordsS wView 7 s3).1.bad = true ∨ numsS ((wordsS wView 7 s3).2.take 7) = none) → ∃ (sn : RdS) (v : List Int) (zn : Sn), Hid (HS br bs b5 (fun j => j = br) w Wc sn zn bg) ∧ Hid (Blk Wc b2 43 (encS z0).toArray) ∧ Hid (∃ m1 m2 m3 m4 m5 m6 m7, zn = { z3 with m1 := m1, m2 := m2, m3 := m3, m4 := m4, m5 := m5, m6 := m6, m7 := m7 }) ∧ Hid (Stp (lineP (rowS wView 7)) s3 sn (fun a => a = v)) ∧ Hid (sn.bad = false → v = [zn.m1, zn.m2, zn.m3, zn.m4, zn.m5, zn.m6, zn.m7]) := fun Wc bb vals h1 h2 h3 h4 => by
              obtain ⟨m1, m2, m3, m4, m5, m6, m7, e1, e3⟩ := put7 bs z3 vals
              have e2 : oneL b5 bg (([⟨bs, 8, none⟩, ⟨bs, 9, none⟩, ⟨bs, 10, none⟩, ⟨bs, 11, none⟩, ⟨bs, 12, none⟩, ⟨bs, 13, none⟩, ⟨bs, 14, none⟩] : List Addr).zip vals) = bg := oneL_far fun p hp e => by
                have q1 := (List.of_mem_zip hp).1
                have q2 : p.1.block = bs := by simp only [List.mem_cons, List.not_mem_nil, or_false] at q1; rcases q1 with h | h | h | h | h | h | h <;> rw [h]
                exact blk_neq HS0.out.sn HS0.out.one (by decide) (q2.symm.trans e)
              rw [e1, e2] at h1
              exact ⟨_, vals, _, h1, h2, Lib.hid ⟨_, _, _, _, _, _, _, rfl⟩, Lib.hid (row_stp h3.out h4.out), Lib.hid (fun e => e3 (by rw [numsS_len (h3.out e).2, List.length_take, HLEN.out]; rfl))⟩
            refine wp_region_held_drew (S := (fun _ => True)) (by kernel_rfl) trivial (fun hHeld => ?_)
            (refine takeW (i := 0) (v := ?_) rfl (by kernel_rfl) (by kernel_rfl) (by kernel_rfl) (fun _ _ _ h => h) (by rfl) (by assumption) ?_ ?_; rotate_left; (intro W hW; (try dsimp only at hW); go_simp; try with_reducible rfl); (try simp only [Act.put, List.setIfInBounds_toArray, List.set_cons_zero, List.set_cons_succ]))
            (refine takeW (i := 1) (v := ?_) rfl (by kernel_rfl) (by kernel_rfl) (by kernel_rfl) (fun _ _ _ h => h) (by rfl) (by assumption) ?_ ?_; rotate_left; (intro W hW; (try dsimp only at hW); go_simp; try with_reducible rfl); (try simp only [Act.put, List.setIfInBounds_toArray, List.set_cons_zero, List.set_cons_succ]))
            (refine takeW (i := 3) (v := ?_) rfl (by kernel_rfl) (by kernel_rfl) (by kernel_rfl) (fun _ _ _ h => h) (by rfl) (by assumption) ?_ ?_; rotate_left; (intro W hW; (try dsimp only at hW); go_simp; try with_reducible rfl); (try simp only [Act.put, List.setIfInBounds_toArray, List.set_cons_zero, List.set_cons_succ]))
            (refine takeW (i := 4) (v := ?_) rfl (by kernel_rfl) (by kernel_rfl) (by kernel_rfl) (fun _ _ _ h => h) (by rfl) (by assumption) ?_ ?_; rotate_left; (intro W hW; (try dsimp only at hW); go_simp; try with_reducible rfl); (try simp only [Act.put, List.setIfInBounds_toArray, List.set_cons_zero, List.set_cons_succ]))
            (refine takeW (i := 5) (v := ?_) rfl (by kernel_rfl) (by kernel_rfl) (by kernel_rfl) (fun _ _ _ h => h) (by rfl) (by assumption) ?_ ?_; rotate_left; (intro W hW; (try dsimp only at hW); go_simp; try with_reducible rfl); (try simp only [Act.put, List.setIfInBounds_toArray, List.set_cons_zero, List.set_cons_succ]))
            (refine takeW (i := 6) (v := ?_) rfl (by kernel_rfl) (by kernel_rfl) (by kernel_rfl) (fun _ _ _ h => h) (by rfl) (by assumption) ?_ ?_; rotate_left; (intro W hW; (try dsimp only at hW); go_simp; try with_reducible rfl); (try simp only [Act.put, List.setIfInBounds_toArray, List.set_cons_zero, List.set_cons_succ]))
            (refine takeW (i := 7) (v := ?_) rfl (by kernel_rfl) (by kernel_rfl) (by kernel_rfl) (fun _ _ _ h => h) (by rfl) (by assumption) ?_ ?_; rotate_left; (intro W hW; (try dsimp only at hW); go_simp; try with_reducible rfl); (try simp only [Act.put, List.setIfInBounds_toArray, List.set_cons_zero, List.set_cons_succ]))
            (refine takeW (i := 8) (v := ?_) rfl (by kernel_rfl) (by kernel_rfl) (by kernel_rfl) (fun _ _ _ h => h) (by rfl) (by assumption) ?_ ?_; rotate_left; (intro W hW; (try dsimp only at hW); go_simp; try with_reducible rfl); (try simp only [Act.put, List.setIfInBounds_toArray, List.set_cons_zero, List.set_cons_succ]))
            (refine takeW (i := 9) (v := ?_) rfl (by kernel_rfl) (by kernel_rfl) (by kernel_rfl) (fun _ _ _ h => h) (by rfl) (by assumption) ?_ ?_; rotate_left; (intro W hW; (try dsimp only at hW); go_simp; try with_reducible rfl); (try simp only [Act.put, List.setIfInBounds_toArray, List.set_cons_zero, List.set_cons_succ]))
            (refine takeW (i := 10) (v := ?_) rfl (by kernel_rfl) (by kernel_rfl) (by kernel_rfl) (fun _ _ _ h => h) (by rfl) (by assumption) ?_ ?_; rotate_left; (intro W hW; (try dsimp only at hW); go_simp; try with_reducible rfl); (try simp only [Act.put, List.setIfInBounds_toArray, List.set_cons_zero, List.set_cons_succ]))
            (refine takeW (i := 11) (v := ?_) rfl (by kernel_rfl) (by kernel_rfl) (by kernel_rfl) (fun _ _ _ h => h) (by rfl) (by assumption) ?_ ?_; rotate_left; (intro W hW; (try dsimp only at hW); go_simp; try with_reducible rfl); (try simp only [Act.put, List.setIfInBounds_toArray, List.set_cons_zero, List.set_cons_succ]))
            (refine takeW (i := 12) (v := ?_) rfl (by kernel_rfl) (by kernel_rfl) (by kernel_rfl) (fun _ _ _ h => h) (by rfl) (by assumption) ?_ ?_; rotate_left; (intro W hW; (try dsimp only at hW); go_simp; try with_reducible rfl); (try simp only [Act.put, List.setIfInBounds_toArray, List.set_cons_zero, List.set_cons_succ]))
            (refine takeW (i := 13) (v := ?_) rfl (by kernel_rfl) (by kernel_rfl) (by kernel_rfl) (fun _ _ _ h => h) (by rfl) (by assumption) ?_ ?_; rotate_left; (intro W hW; (try dsimp only at hW); go_simp; try with_reducible rfl); (try simp only [Act.put, List.setIfInBounds_toArray, List.set_cons_zero, List.set_cons_succ]))
            (refine takeW (i := 14) (v := ?_) rfl (by kernel_rfl) (by kernel_rfl) (by kernel_rfl) (fun _ _ _ h => h) (by rfl) (by assumption) ?_ ?_; rotate_left; (intro W hW; (try dsimp only at hW); go_simp; try with_reducible rfl); (try simp only [Act.put, List.setIfInBounds_toArray, List.set_cons_zero, List.set_cons_succ]))
            (refine takeW (i := 15) (v := ?_) rfl (by kernel_rfl) (by kernel_rfl) (by kernel_rfl) (fun _ _ _ h => h) (by rfl) (by assumption) ?_ ?_; rotate_left; (intro W hW; (try dsimp only at hW); go_simp; try with_reducible rfl); (try simp only [Act.put, List.setIfInBounds_toArray, List.set_cons_zero, List.set_cons_succ]))
            (refine takeW (i := 16) (v := ?_) rfl (by kernel_rfl) (by kernel_rfl) (by kernel_rfl) (fun _ _ _ h => h) (by rfl) (by assumption) ?_ ?_; rotate_left; (intro W hW; (try dsimp only at hW); go_simp; try with_reducible rfl); (try simp only [Act.put, List.setIfInBounds_toArray, List.set_cons_zero, List.set_cons_succ]))
            (refine takeW (i := 17) (v := ?_) rfl (by kernel_rfl) (by kernel_rfl) (by kernel_rfl) (fun _ _ _ h => h) (by rfl) (by assumption) ?_ ?_; rotate_left; (intro W hW; (try dsimp only at hW); go_simp; try with_reducible rfl); (try simp only [Act.put, List.setIfInBounds_toArray, List.set_cons_zero, List.set_cons_succ]))
            (refine takeW (i := 18) (v := ?_) rfl (by kernel_rfl) (by kernel_rfl) (by kernel_rfl) (fun _ _ _ h => h) (by rfl) (by assumption) ?_ ?_; rotate_left; (intro W hW; (try dsimp only at hW); go_simp; try with_reducible rfl); (try simp only [Act.put, List.setIfInBounds_toArray, List.set_cons_zero, List.set_cons_succ]))
            (refine takeW (i := 19) (v := ?_) rfl (by kernel_rfl) (by kernel_rfl) (by kernel_rfl) (fun _ _ _ h => h) (by rfl) (by assumption) ?_ ?_; rotate_left; (intro W hW; (try dsimp only at hW); go_simp; try with_reducible rfl); (try simp only [Act.put, List.setIfInBounds_toArray, List.set_cons_zero, List.set_cons_succ]))
            (refine takeW (i := 20) (v := ?_) rfl (by kernel_rfl) (by kernel_rfl) (by kernel_rfl) (fun _ _ _ h => h) (by rfl) (by assumption) ?_ ?_; rotate_left; (intro W hW; (try dsimp only at hW); go_simp; try with_reducible rfl); (try simp only [Act.put, List.setIfInBounds_toArray, List.set_cons_zero, List.set_cons_succ]))
            (refine takeW (i := 21) (v := ?_) rfl (by kernel_rfl) (by kernel_rfl) (by kernel_rfl) (fun _ _ _ h => h) (by rfl) (by assumption) ?_ ?_; rotate_left; (intro W hW; (try dsimp only at hW); go_simp; try with_reducible rfl); (try simp only [Act.put, List.setIfInBounds_toArray, List.set_cons_zero, List.set_cons_succ]))
            (refine takeW (i := 22) (v := ?_) rfl (by kernel_rfl) (by kernel_rfl) (by kernel_rfl) (fun _ _ _ h => h) (by rfl) (by assumption) ?_ ?_; rotate_left; (intro W hW; (try dsimp only at hW); go_simp; try with_reducible rfl); (try simp only [Act.put, List.setIfInBounds_toArray, List.set_cons_zero, List.set_cons_succ]))
            (refine takeW (i := 23) (v := ?_) rfl (by kernel_rfl) (by kernel_rfl) (by kernel_rfl) (fun _ _ _ h => h) (by rfl) (by assumption) ?_ ?_; rotate_left; (intro W hW; (try dsimp only at hW); go_simp; try with_reducible rfl); (try simp only [Act.put, List.setIfInBounds_toArray, List.set_cons_zero, List.set_cons_succ]))
            (refine takeW (i := 24) (v := ?_) rfl (by kernel_rfl) (by kernel_rfl) (by kernel_rfl) (fun _ _ _ h => h) (by rfl) (by assumption) ?_ ?_; rotate_left; (intro W hW; (try dsimp only at hW); go_simp; try with_reducible rfl); (try simp only [Act.put, List.setIfInBounds_toArray, List.set_cons_zero, List.set_cons_succ]))
            (refine takeW (i := 25) (v := ?_) rfl (by kernel_rfl) (by kernel_rfl) (by kernel_rfl) (fun _ _ _ h => h) (by rfl) (by assumption) ?_ ?_; rotate_left; (intro W hW; (try dsimp only at hW); go_simp; try with_reducible rfl); (try simp only [Act.put, List.setIfInBounds_toArray, List.set_cons_zero, List.set_cons_succ]))
            (refine takeW (i := 26) (v := ?_) rfl (by kernel_rfl) (by kernel_rfl) (by kernel_rfl) (fun _ _ _ h => h) (by rfl) (by assumption) ?_ ?_; rotate_left; (intro W hW; (try dsimp only at hW); go_simp; try with_reducible rfl); (try simp only [Act.put, List.setIfInBounds_toArray, List.set_cons_zero, List.set_cons_succ]))
            (refine takeW (i := 27) (v := ?_) rfl (by kernel_rfl) (by kernel_rfl) (by kernel_rfl) (fun _ _ _ h => h) (by rfl) (by assumption) ?_ ?_; rotate_left; (intro W hW; (try dsimp only at hW); go_simp; try with_reducible rfl); (try simp only [Act.put, List.setIfInBounds_toArray, List.set_cons_zero, List.set_cons_succ]))
            (refine takeW (i := 28) (v := ?_) rfl (by kernel_rfl) (by kernel_rfl) (by kernel_rfl) (fun _ _ _ h => h) (by rfl) (by assumption) ?_ ?_; rotate_left; (intro W hW; (try dsimp only at hW); go_simp; try with_reducible rfl); (try simp only [Act.put, List.setIfInBounds_toArray, List.set_cons_zero, List.set_cons_succ]))
            (refine takeW (i := 29) (v := ?_) rfl (by kernel_rfl) (by kernel_rfl) (by kernel_rfl) (fun _ _ _ h => h) (by rfl) (by assumption) ?_ ?_; rotate_left; (intro W hW; (try dsimp only at hW); go_simp; try with_reducible rfl); (try simp only [Act.put, List.setIfInBounds_toArray, List.set_cons_zero, List.set_cons_succ]))
            (refine takeW (i := 30) (v := ?_) rfl (by kernel_rfl) (by kernel_rfl) (by kernel_rfl) (fun _ _ _ h => h) (by rfl) (by assumption) ?_ ?_; rotate_left; (intro W hW; (try dsimp only at hW); go_simp; try with_reducible rfl); (try simp only [Act.put, List.setIfInBounds_toArray, List.set_cons_zero, List.set_cons_succ]))
            refine takeC2 (i := 2) (j := 31) rfl rfl (by kernel_rfl) (by rfl) (by rfl) (fun K hK => ?_) (fun K hK => ?_)
            all_goals clear hHeld
            · go_simp
              refine (words_hs HS0.out rfl h0 wView 7 (by decide) (by decide)).mono ?_
              rintro e Wa ⟨lv, rfl, hw, hs, hfw, hk⟩
              have HSa := Lib.hid hs
              have HR2a : Hid (Blk Wa b2 43 (encS z0).toArray) := HR20.out.fr hk H2R.out
              have HLa := Lib.hid hw
              have HFb := Lib.hid hfw
              clear hw hs hfw hk
              refine hK.out _ _ trivial (fun hHeld => ?_)
              clear hK K hHeld
              (try simp only [Act.put, List.setIfInBounds_toArray, List.set_cons_zero, List.set_cons_succ])
              refine takeE (i := 31) rfl (by kernel_rfl) (by rfl) (exec_pS7 rfl rfl rfl rfl rfl rfl rfl rfl ) ?_
              rintro va Wb ⟨hva, hra, hbl, hll⟩
              have HSb := Lib.hid (HSa.out.below hbl)
              have HR2b := Lib.hid (HR2a.out.keep hbl)
              have HLb := Lib.hid (HLa.out.below hbl)
              have HRb := Lib.hid hra
              have HVb := Lib.hid hva
              have HGb : Hid (Wa.heap.size ≠ br ∧ Wa.heap.size ≠ bs ∧ Wa.heap.size ≠ b5) := ⟨Nat.ne_of_gt HSa.out.rd.lt, Nat.ne_of_gt HSa.out.sn.lt, Nat.ne_of_gt HSa.out.one.lt⟩
              clear hva hra hbl hll HSa HR2a HLa
              refine ⟨trivial, ?_⟩
              (try simp only [Act.put, List.setIfInBounds_toArray, List.set_cons_zero, List.set_cons_succ])
              have HNN := Lib.hid (HSb.out.nums (A := [⟨bs, 8, none⟩, ⟨bs, 9, none⟩, ⟨bs, 10, none⟩, ⟨bs, 11, none⟩, ⟨bs, 12, none⟩, ⟨bs, 13, none⟩, ⟨bs, 14, none⟩]) rfl HBS.out HB5.out h0 HBS0.out HB50.out HLb.out HFb.out HRb.out HVb.out HGb.out (List.forall_mem_cons.2 ⟨.inl ⟨8, rfl, by unfold numAt; omega⟩, (List.forall_mem_cons.2 ⟨.inl ⟨9, rfl, by unfold numAt; omega⟩, (List.forall_mem_cons.2 ⟨.inl ⟨10, rfl, by unfold numAt; omega⟩, (List.forall_mem_cons.2 ⟨.inl ⟨11, rfl, by unfold numAt; omega⟩, (List.forall_mem_cons.2 ⟨.inl ⟨12, rfl, by unfold numAt; omega⟩, (List.forall_mem_cons.2 ⟨.inl ⟨13, rfl, by unfold numAt; omega⟩, (List.forall_mem_cons.2 ⟨.inl ⟨14, rfl, by unfold numAt; omega⟩, (fun a h => by cases h)⟩)⟩)⟩)⟩)⟩)⟩)⟩) (Nat.le_of_eq HLEN.out.symm) HWL.out)
              refine takeC (i := 32) rfl (by kernel_rfl) (by rfl) (fun K hK => ?_)
              go_simp
              refine HNN.out.mono ?_
              rintro e Wc ⟨rfl, bb, vals, hsc, hb0, hb1, hkc⟩
              have HSc := Lib.hid hsc
              have HB0 := Lib.hid hb0
              have HB1 := Lib.hid hb1
              have HR2c : Hid (Blk Wc b2 43 (encS z0).toArray) := HR2b.out.fr hkc (by rintro (e | e | e); exact H2R.out e; exact H2S.out e; exact H25.out e)
              clear hsc hb0 hb1 hkc HNN HLb HFb HRb HVb HGb HSb HR2b
              refine hK.out _ _ trivial (fun hHeld => ?_)
              clear hK K
              (try simp only [Act.put, List.setIfInBounds_toArray, List.set_cons_zero, List.set_cons_succ])
              refine wpAnyH_done (by kernel_rfl) ?_ _
              clear hHeld
              go_wp2_with fail
              go_meet
              exact FIN3 _ _ _ HSc HR2c HB0 HB1
            · refine wp_ofE hK (exec_pS7 rfl rfl rfl rfl rfl rfl rfl rfl ) ?_
              rintro va Wa ⟨hva, hra, hbl, hll⟩
              have HSa := Lib.hid (HS0.out.below hbl)
              have HR2a := Lib.hid (HR20.out.keep hbl)
              have HRa := Lib.hid hra
              have HVb := Lib.hid hva
              have HGb : Hid (W0.heap.size ≠ br ∧ W0.heap.size ≠ bs ∧ W0.heap.size ≠ b5) := ⟨Nat.ne_of_gt HS0.out.rd.lt, Nat.ne_of_gt HS0.out.sn.lt, Nat.ne_of_gt HS0.out.one.lt⟩
              clear hva hra hbl hll
              refine ⟨trivial, ?_⟩
              clear hK K
              (try simp only [Act.put, List.setIfInBounds_toArray, List.set_cons_zero, List.set_cons_succ])
              refine takeC (i := 2) rfl (by kernel_rfl) (by rfl) (fun K hK => ?_)
              go_simp
              refine (words_hs HSa.out rfl h0 wView 7 (by decide) (by decide)).mono ?_
              rintro e Wb ⟨lv, rfl, hw, hs, hfw, hk⟩
              have HSb := Lib.hid hs
              have HR2b : Hid (Blk Wb b2 43 (encS z0).toArray) := HR2a.out.fr hk H2R.out
              have HLb := Lib.hid hw
              have HFb := Lib.hid hfw
              have HRb := Lib.hid (Rd.frs HRa.out hk (fun g o n c e h => HGb.out.1 (by rw [HVb.out] at e; simp only [Value.slice.injEq, Option.some.injEq, Addr.mk.injEq, and_true] at e; exact e.1.1.trans h)))
              clear hw hs hfw hk HSa HR2a HRa
              refine hK.out _ _ trivial (fun hHeld => ?_)
              clear hK K hHeld
              (try simp only [Act.put, List.setIfInBounds_toArray, List.set_cons_zero, List.set_cons_succ])
              have HNN := Lib.hid (HSb.out.nums (A := [⟨bs, 8, none⟩, ⟨bs, 9, none⟩, ⟨bs, 10, none⟩, ⟨bs, 11, none⟩, ⟨bs, 12, none⟩, ⟨bs, 13, none⟩, ⟨bs, 14, none⟩]) rfl HBS.out HB5.out h0 HBS0.out HB50.out HLb.out HFb.out HRb.out HVb.out HGb.out (List.forall_mem_cons.2 ⟨.inl ⟨8, rfl, by unfold numAt; omega⟩, (List.forall_mem_cons.2 ⟨.inl ⟨9, rfl, by unfold numAt; omega⟩, (List.forall_mem_cons.2 ⟨.inl ⟨10, rfl, by unfold numAt; omega⟩, (List.forall_mem_cons.2 ⟨.inl ⟨11, rfl, by unfold numAt; omega⟩, (List.forall_mem_cons.2 ⟨.inl ⟨12, rfl, by unfold numAt; omega⟩, (List.forall_mem_cons.2 ⟨.inl ⟨13, rfl, by unfold numAt; omega⟩, (List.forall_mem_cons.2 ⟨.inl ⟨14, rfl, by unfold numAt; omega⟩, (fun a h => by cases h)⟩)⟩)⟩)⟩)⟩)⟩)⟩) (Nat.le_of_eq HLEN.out.symm) HWL.out)
              refine takeC (i := 32) rfl (by kernel_rfl) (by rfl) (fun K hK => ?_)
              go_simp
              refine HNN.out.mono ?_
              rintro e Wc ⟨rfl, bb, vals, hsc, hb0, hb1, hkc⟩
              have HSc := Lib.hid hsc
              have HB0 := Lib.hid hb0
              have HB1 := Lib.hid hb1
              have HR2c : Hid (Blk Wc b2 43 (encS z0).toArray) := HR2b.out.fr hkc (by rintro (e | e | e); exact H2R.out e; exact H2S.out e; exact H25.out e)
              clear hsc hb0 hb1 hkc HNN HLb HFb HRb HVb HGb HSb HR2b
              refine hK.out _ _ trivial (fun hHeld => ?_)
              clear hK K
              (try simp only [Act.put, List.setIfInBounds_toArray, List.set_cons_zero, List.set_cons_succ])
              refine wpAnyH_done (by kernel_rfl) ?_ _
              clear hHeld
              go_wp2_with fail
              go_meet
              exact FIN3 _ _ _ HSc HR2c HB0 HB1
          case rest =>
            rename World => W0
            obtain ⟨s4, v4, z4, HS0', HR20', HZ4, HST4, HV4⟩ := hcut
            clear HS0 HR20
            have HS4 := HS0'
            have HR4 := HR20'
            clear HS0' HR20'
            have HZ4N : Hid (z4.oa = none ∧ z4.on = 0 ∧ z4.oc = 0 ∧ z4.ia = none ∧ z4.nn = 0 ∧ z4.ic = 0) := by
              obtain ⟨_, _, _, _, _, e1⟩ := HZ1.out
              obtain ⟨_, _, _, _, _, e3⟩ := HZ3.out
              obtain ⟨_, _, _, _, _, _, _, e4⟩ := HZ4.out
              show _ ∧ _
              rw [e4, e3, HZ2.out, e1]
              exact ⟨rfl, rfl, rfl, rfl, rfl, rfl⟩
            go_wp2_with (go_at_call 27; refine (host_any br bs s4 z4 W0 HS4.out.rd HS4.out.sn HS4.out.ml h0 HBS0.out HS4.out.ok HZ4N.out).mono ?_)
            rintro e W5 ⟨rfl, s5, y, hr, hsn, hfr, hok, hml, hown, ⟨hi, lf, wt, oa, on, oc, ia, nn, ic, hy⟩, hst⟩
            have HR5 := Lib.hid (HR4.out.fr hfr (by rintro (e | e); exact H2R.out e; exact H2S.out e))
            have HCY : Hid (∀ j u, (encS y.s)[j]? = some u → W5.cell? ⟨bs, 0 + j, none⟩ = some u) := hsn.list
            have HFIN : Hid (POST (.returned (.agg (encS y.s).toArray)) (W5.setRow b2 (encS y.s).toArray)) := by
              have hfs : Fr (fun j => j = b2) W5 (W5.setRow b2 (encS y.s).toArray) := fr_setRow HR5.out
              have hst' : Stp hostP s4 s5 (fun q => q = ([y.s.hi, y.s.lf, y.s.wt], bytesOf y.out, y.ms.map Mx.k)) := hst
              obtain ⟨_, _, _, _, _, e1⟩ := HZ1.out
              obtain ⟨_, _, _, _, _, e3⟩ := HZ3.out
              obtain ⟨_, _, _, _, _, _, _, e4⟩ := HZ4.out
              have e2 := HZ2.out
              have f1 : y.s.r = z1.r ∧ y.s.i = z1.i ∧ y.s.s = z1.s ∧ y.s.tm = z1.tm ∧ y.s.su = z1.su ∧ y.s.bg = (bg == 1) := by rw [hy, e4, e3, e2]; exact ⟨rfl, rfl, rfl, rfl, rfl, rfl⟩
              have f3 : [y.s.t1, y.s.t2, y.s.t3, y.s.t4, y.s.t5] = [z3.t1, z3.t2, z3.t3, z3.t4, z3.t5] := by rw [hy, e4]
              have f4 : [y.s.m1, y.s.m2, y.s.m3, y.s.m4, y.s.m5, y.s.m6, y.s.m7] = [z4.m1, z4.m2, z4.m3, z4.m4, z4.m5, z4.m6, z4.m7] := by rw [hy]
              obtain ⟨g1, g2, g3, g4, g5, g6⟩ := f1
              have hb : (bg = 0 ∨ bg = 1) → bitZ y.s.bg = bg := fun h => by rw [g6]; rcases h with rfl | rfl <;> rfl
              have hfin := snap_whole (y := y) (HST2.out.mono (Q := fun a => a = v1 ∧ (bitZ y.s.bg = 0 ∨ bitZ y.s.bg = 1)) (fun e a ha => ⟨ha.1, by rw [hb ha.2]; exact ha.2⟩)) (fun e => by rw [g1, g2, g3, g4, g5, hb (HV2.out e).2]; exact (HV2.out e).1) HST3.out (fun e => by rw [f3]; exact HV3.out e) HST4.out (fun e => by rw [f4]; exact HV4.out e) hst'
              refine HPO.out _ s5 y (hr.fr hfs (fun e => H2R.out e.symm)) (((HS4.out.fr).step hfr (fun j hj e => ?_)).step hfs (fun j hj e => ?_)) hok (hml.fr hfs (fun e => ?_)) ((hown.le HS4.out.fr.size).fr hfs (fun j e => blkF HR5.out (by decide) (by decide) e)) hfin
              · rcases e with e | e
                · exact e
                · exact Eq.trans e (HBS.out (e ▸ hj))
              · have := HB2L.out
                omega
              · have := HB2L.out
                have := HW0.out
                omega
            clear hr hsn hfr hok hml hown hy hst
            go_wp2_with (first | ((with_reducible show wpList _ _ _ (Oper.mk (some 102) _ _ _ _ _ :: _) _ _); refine wpList_loadW W41 rfl rfl (x := .tmp 3) rfl (encS y.s) rfl HCY.out ?_) | ((with_reducible show wpList _ _ _ (Oper.mk none _ _ _ _ _ :: _) _ _); refine wpList_skipped rfl (exec_storeW W41 rfl rfl rfl rfl (encS_one _) HR5.out rfl) ?_))
            exact bodyPost_ret (results_cell1 rfl W41 rfl rfl (Blk.list (Blk.part HR5.out))) rfl HFIN.out
end Go.Proofs.YtjaaldeaknmmbaaDoor
