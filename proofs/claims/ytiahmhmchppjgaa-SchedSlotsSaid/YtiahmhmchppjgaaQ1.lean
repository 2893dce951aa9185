/- Contracts of the document: put, Norm. -/
import Derived.Test.YtiahmhmchppjgaaBl
import Derived.Deep.QuietTactic
import Derived.BigQuiet
namespace Go.Proofs.Ytiahmhmchppjgaa
open Go.RowKit Go.Shelf
open Sched (Sp bad)

def pcnt (st : List Sp × Sp × Bool) : Nat := st.1.length + (if st.2.2 then 0 else 1)
theorem pcnt_step (st : List Sp × Sp × Bool) (x : Sp) : pcnt (Sched.pstep st x) ≤ pcnt st + 1 := by
  obtain ⟨o, s, d⟩ := st
  unfold pcnt Sched.pstep
  dsimp only
  by_cases h1 : x.2 < s.1
  · rw [if_pos h1]; cases d <;> simp
  · rw [if_neg h1]
    by_cases h2 : s.2 < x.1
    · rw [if_pos h2]; cases d <;> simp
    · rw [if_neg h2]; cases d <;> simp
theorem pcnt_fold : ∀ (l : List Sp) (st : List Sp × Sp × Bool), pcnt (l.foldl Sched.pstep st) ≤ pcnt st + l.length
  | [], _ => by simp
  | x :: l, st => by
    have h1 := pcnt_fold l (Sched.pstep st x)
    have h2 := pcnt_step st x
    simp only [List.foldl_cons, List.length_cons]
    omega
theorem put_len' (l : List Sp) (s : Sp) : (Sched.put l s).length ≤ l.length + 1 := by
  have h := pcnt_fold l ([], s, false)
  unfold Sched.put
  unfold pcnt at h
  split <;> rename_i hd <;> simp [hd] at h ⊢ <;> omega
theorem pstep_I64 {st : List Sp × Sp × Bool} {x : Sp} (h : (∀ y ∈ st.1, I64 y.1 ∧ I64 y.2) ∧ I64 st.2.1.1 ∧ I64 st.2.1.2) (hx : I64 x.1 ∧ I64 x.2) :
    (∀ y ∈ (Sched.pstep st x).1, I64 y.1 ∧ I64 y.2) ∧ I64 (Sched.pstep st x).2.1.1 ∧ I64 (Sched.pstep st x).2.1.2 := by
  obtain ⟨o, s, d⟩ := st
  obtain ⟨h1, h2, h3⟩ := h
  unfold Sched.pstep
  dsimp only at *
  have app : ∀ {o : List Sp} {x : Sp}, (∀ y ∈ o, I64 y.1 ∧ I64 y.2) → (I64 x.1 ∧ I64 x.2) → ∀ y ∈ o ++ [x], I64 y.1 ∧ I64 y.2 := fun ho hx y hy => by
    rcases List.mem_append.1 hy with hy | hy
    · exact ho y hy
    · obtain rfl := List.mem_singleton.1 hy; exact hx
  by_cases c1 : x.2 < s.1
  · rw [if_pos c1]; exact ⟨app h1 hx, h2, h3⟩
  · rw [if_neg c1]
    by_cases c2 : s.2 < x.1
    · rw [if_pos c2]
      refine ⟨?_, h2, h3⟩
      cases d
      · exact app (app h1 ⟨h2, h3⟩) hx
      · exact app h1 hx
    · rw [if_neg c2]
      refine ⟨h1, ?_, ?_⟩
      · dsimp only; unfold I64 at *; omega
      · dsimp only; unfold I64 at *; omega
theorem pfold_I64 : ∀ (l : List Sp) (st : List Sp × Sp × Bool), ((∀ y ∈ st.1, I64 y.1 ∧ I64 y.2) ∧ I64 st.2.1.1 ∧ I64 st.2.1.2) → (∀ s ∈ l, I64 s.1 ∧ I64 s.2) →
    ((∀ y ∈ (l.foldl Sched.pstep st).1, I64 y.1 ∧ I64 y.2) ∧ I64 (l.foldl Sched.pstep st).2.1.1 ∧ I64 (l.foldl Sched.pstep st).2.1.2)
  | [], _, h, _ => h
  | x :: l, _, h, hl => pfold_I64 l _ (pstep_I64 h (hl x List.mem_cons_self)) fun s hs => hl s (List.mem_cons_of_mem _ hs)
theorem put_I64 {l : List Sp} {s : Sp} (hl : ∀ s ∈ l, I64 s.1 ∧ I64 s.2) (hs : I64 s.1 ∧ I64 s.2) : ∀ y ∈ Sched.put l s, I64 y.1 ∧ I64 y.2 := by
  obtain ⟨h1, h2⟩ := pfold_I64 l ([], s, false) ⟨by simp, hs⟩ hl
  unfold Sched.put
  split
  · exact h1
  · intro y hy
    rcases List.mem_append.1 hy with hy | hy
    · exact h1 y hy
    · obtain rfl := List.mem_singleton.1 hy; exact h2
theorem pfold_snoc {l : List Sp} {k : Nat} {x : Sp} (st : List Sp × Sp × Bool) (h : l[k]? = some x) : (l.take (k + 1)).foldl Sched.pstep st = Sched.pstep ((l.take k).foldl Sched.pstep st) x := by
  have hk := (List.getElem?_eq_some_iff.1 h).1
  rw [List.take_succ_eq_append_getElem hk, List.foldl_append, (List.getElem?_eq_some_iff.1 h).2]; rfl
theorem Spans.cell {w : World} {a : Option Addr} {n cap : Nat} {l : List Sp} (h : Spans w (.slice a n cap) l) {k : Nat} {x : Sp} (hx : l[k]? = some x) :
    ∃ b off, a = some ⟨b, off, none⟩ ∧ b < w.heap.size ∧ w.cell? ⟨b, off + k * 2, none⟩ = some (.int .i64 x.1) ∧ w.cell? ⟨b, off + k * 2 + 1, none⟩ = some (.int .i64 x.2) := by
  obtain ⟨b, off, rfl, hb, hc⟩ := h.row (by rintro rfl; simp at hx)
  have hk := (List.getElem?_eq_some_iff.1 hx).1
  obtain ⟨c1, c2⟩ := hc k hk
  have : l.getD k (0, 0) = x := by simp [List.getD_eq_getElem?_getD, hx]
  rw [this] at c1 c2
  exact ⟨b, off, rfl, hb, c1, c2⟩

set_option maxRecDepth 100000 in
set_option maxHeartbeats 3200000 in
theorem rput_any (l : List Sp) (v : Value) (s : Sp) (w : World) (h : Spans w v l) (hl : l.length ≤ 1000) :
    Calls Try.prog 44 #[v, spv s] w fun e w' => (∃ v', e = .returned v' ∧ w'.ownsRow w.heap.size 23 2 v' (Sched.put l s).length ((Sched.put l s).flatMap encSp)) ∧ Below w.heap.size w w' := by
  have HS := Lib.hid h
  obtain ⟨a, c, rfl, -⟩ := h.shape
  obtain ⟨P, hP⟩ : ∃ P : Nat → List Sp × Sp × Bool, P = fun k => (l.take k).foldl Sched.pstep ([], s, false) := ⟨_, rfl⟩
  have HP0 : Hid (P 0 = ([], s, false)) := by show _ = _; rw [hP]; rfl
  have HP1 : Hid (∀ k x, l[k]? = some x → P (k + 1) = Sched.pstep (P k) x) := fun k x hx => by rw [hP]; exact pfold_snoc _ hx
  have HPE : Hid (Sched.put l s = if (P l.length).2.2 then (P l.length).1 else (P l.length).1 ++ [(P l.length).2.1]) := by show _ = _; rw [hP]; simp only [List.take_length]; rfl
  have HPC : Hid (∀ k, (P k).1.length ≤ k + 1) := fun k => by
    have h1 := pcnt_fold (l.take k) ([], s, false)
    have h2 : (l.take k).length ≤ k := List.length_take_le _ _
    rw [hP]
    unfold pcnt at h1
    simp only [List.length_nil] at h1 ⊢
    split at h1 <;> simp at h1 <;> omega
  clear hP h
  generalize Sched.put l s = R at *
  obtain ⟨sf, st⟩ := s
  unfold spv
  generalize hn : l.length = n at *
  have HN := Lib.hid hn
  clear hn
  have HB : Hid (Blk (w.alloc (.cells #[.int .i64 sf, .int .i64 st] 23)) w.heap.size 23 #[.int .i64 sf, .int .i64 st]) := (Blk.new' rfl : Blk _ _ _ _)
  have HW := Lib.hid (below1 w (.cells #[.int .i64 sf, .int .i64 st] 23))
  go_enter Try.func44, Try.ntmps44
  go_wp2_with fail
  generalize hw1 : w.alloc (.cells #[.int .i64 sf, .int .i64 st] 23) = w1 at *
  have hs1 : w.heap.size + 1 ≤ w1.heap.size := by rw [← hw1]; simp
  clear hw1
  go_loopw [5, 6, 7] (fun u d i wr => ∃ k : Nat, k ≤ n ∧ i = .int .i64 k ∧ d = .bool (P k).2.2 ∧ Hid (wr.ownsRow (w.heap.size + 1) 23 2 u (P k).1.length ((P k).1.flatMap encSp)) ∧ Hid (Blk wr w.heap.size 23 #[.int .i64 (P k).2.1.1, .int .i64 (P k).2.1.2]) ∧ Hid (Below w.heap.size w wr ∧ w.heap.size + 1 ≤ wr.heap.size)) (fun _ _ i _ => n - (intOf i).toNat)
  case atStart => exact ⟨0, Nat.zero_le _, rfl, by rw [HP0.out], by rw [HP0.out]; exact World.ownsRow_nil _ _ _ _, by rw [HP0.out]; exact HB.out, HW.out, hs1⟩
  case round =>
    clear HB HW hs1
    obtain ⟨k, hk, rfl, rfl, HO, HB, HW⟩ := hrel
    by_cases hlt : k < n
    · obtain ⟨x, hx⟩ : ∃ x, l[k]? = some x := ⟨_, List.getElem?_eq_getElem (by rw [HN.out]; exact hlt)⟩
      have HQ := Lib.hid (HP1.out k x hx)
      have hc := HPC.out k
      obtain ⟨b, off, rfl, hbl, c1, c2⟩ := (HS.out.below HW.out.1).cell hx
      clear hx
      generalize P k = Pk at *
      obtain ⟨O, ⟨sf, st⟩, D⟩ := Pk
      obtain ⟨f, t⟩ := x
      simp only at c1 c2 hc
      have hsz := HW.out.2
      have HNX := Lib.hid (own_ne HO.out)
      have HX : Hid (Blk (wr.alloc (.cells #[.int .i64 f, .int .i64 t] 23)) wr.heap.size 23 #[.int .i64 f, .int .i64 t]) := (Blk.new' rfl : Blk _ _ _ _)
      have HBx : Hid (Below wr.heap.size wr (wr.alloc (.cells #[.int .i64 f, .int .i64 t] 23))) := below1 _ _
      go_upto_region 7 with fail
      replace HO := Lib.hid (ow_below HO.out HBx.out)
      replace HB := Lib.hid (HB.out.keep HBx.out)
      replace HW : Hid (Below w.heap.size w _ ∧ w.heap.size + 1 ≤ _) := ⟨HW.out.1.trans (HBx.out.mono HW.out.1.size), Nat.le_trans HW.out.2 HBx.out.size⟩
      clear c1 c2 HBx hbl
      generalize wr.heap.size = bx at *
      generalize wr.alloc (.cells #[.int .i64 f, .int .i64 t] 23) = w2 at *
      simp only at HO HB
      obtain ⟨x0, x1⟩ := HX.out.two
      obtain ⟨s0, s1⟩ := HB.out.two
      have hz := HX.out.lt
      have hsz2 := HW.out.2
      by_cases c1 : t < sf
      · have HQ2 : Hid (P (k + 1) = (O ++ [(f, t)], (sf, st), D)) := by show _ = _; rw [HQ.out]; simp [Sched.pstep, c1]
        clear HQ
        go_wp2_with (at_builtin; refine wpList_app1 E29 rfl _ _ rfl HO.out [.int .i64 f, .int .i64 t] rfl (cells2 rfl rfl) rfl rfl (by omega) hsz2 ?_; intro v' w3 ho hg)
        go_roundw
        case rel => exact ⟨k + 1, by omega, by go_num, by rw [HQ2.out], by rw [HQ2.out, fm_snoc]; show World.ownsRow _ _ _ _ _ _ _; simpa using ho, by rw [HQ2.out]; exact keptLow HB.out hg HO.out (by omega), below_app HW.out.1 (by omega) HO.out hg HW.out.1.size, Nat.le_trans hsz2 hg.size⟩
        case measure => simp [intOf]; omega
      · by_cases c2 : st < f
        · cases D
          · have HQ2 : Hid (P (k + 1) = (O ++ [(sf, st)] ++ [(f, t)], (sf, st), true)) := by show _ = _; rw [HQ.out]; simp [Sched.pstep, c1, c2]
            clear HQ
            go_upto_region 12 with (at_builtin; refine wpList_app1 E29 rfl _ _ rfl HO.out [.int .i64 sf, .int .i64 st] rfl (cells2 rfl rfl) rfl rfl (by omega) hsz2 ?_; intro v' w3 ho hg)
            have HO3 := Lib.hid ho
            have HB3 := Lib.hid (keptLow HB.out hg HO.out (by omega))
            have HW3 := Lib.hid (below_app HW.out.1 (by omega) HO.out hg HW.out.1.size)
            have HX3 := Lib.hid (HX.out.kept hg (fun e => HNX.out e.symm))
            have hsz3 : w.heap.size + 1 ≤ w3.heap.size := Nat.le_trans hsz2 hg.size
            clear ho hg x0 x1 s0 s1 hz HX HO HB HW HNX
            obtain ⟨x0, x1⟩ := HX3.out.two
            have hz := HX3.out.lt
            go_wp2_with (at_builtin; refine wpList_app1 E29 rfl _ _ rfl HO3.out [.int .i64 f, .int .i64 t] rfl (cells2 rfl rfl) rfl rfl (by omega) hsz3 ?_; intro v4 w4 ho hg)
            go_roundw
            case rel => exact ⟨k + 1, by omega, by go_num, by rw [HQ2.out], by rw [HQ2.out, fm_snoc, fm_snoc]; show World.ownsRow _ _ _ _ _ _ _; simpa using ho, by rw [HQ2.out]; exact keptLow HB3.out hg HO3.out (by omega), below_app HW3.out (by omega) HO3.out hg HW3.out.size, Nat.le_trans hsz3 hg.size⟩
            case measure => simp [intOf]; omega
          · have HQ2 : Hid (P (k + 1) = (O ++ [(f, t)], (sf, st), true)) := by show _ = _; rw [HQ.out]; simp [Sched.pstep, c1, c2]
            clear HQ
            go_wp2_with (at_builtin; refine wpList_app1 E29 rfl _ _ rfl HO.out [.int .i64 f, .int .i64 t] rfl (cells2 rfl rfl) rfl rfl (by omega) hsz2 ?_; intro v' w3 ho hg)
            go_roundw
            case rel => exact ⟨k + 1, by omega, by go_num, by rw [HQ2.out], by rw [HQ2.out, fm_snoc]; show World.ownsRow _ _ _ _ _ _ _; simpa using ho, by rw [HQ2.out]; exact keptLow HB.out hg HO.out (by omega), below_app HW.out.1 (by omega) HO.out hg HW.out.1.size, Nat.le_trans hsz2 hg.size⟩
            case measure => simp [intOf]; omega
        · have HQ2 : Hid (P (k + 1) = (O, (min sf f, max st t), D)) := by show _ = _; rw [HQ.out]; simp [Sched.pstep, c1, c2]
          clear HQ
          have fs0 := HB.out.frozen 0
          have fs1 := HB.out.frozen 1
          have HB2 : Hid (Blk ((w2.setCell ⟨w.heap.size, 0, none⟩ (.int .i64 (min sf f))).setCell ⟨w.heap.size, 1, none⟩ (.int .i64 (max st t))) w.heap.size 23 #[.int .i64 (min sf f), .int .i64 (max st t)]) := by show Blk _ _ _ _; simpa using (HB.out.set 0 (.int .i64 (min sf f))).set 1 (.int .i64 (max st t))
          have HO2 := Lib.hid (keptSet (keptSet HO.out (b := w.heap.size) (i := 0) (by omega) (.int .i64 (min sf f))) (b := w.heap.size) (i := 1) (by omega) (.int .i64 (max st t)))
          have HW2 := Lib.hid ((HW.out.1.setCell (p := ⟨w.heap.size, 0, none⟩) (by simp) (.int .i64 (min sf f))).setCell (p := ⟨w.heap.size, 1, none⟩) (by simp) (.int .i64 (max st t)))
          go_upto_region 5 with fail
          clear fs0 fs1 x0 x1 s0 s1 hz HX HO HB HNX
          have hsz3 : w.heap.size + 1 ≤ ((w2.setCell ⟨w.heap.size, 0, none⟩ (.int .i64 (min sf f))).setCell ⟨w.heap.size, 1, none⟩ (.int .i64 (max st t))).heap.size := by simpa using hsz2
          generalize (w2.setCell ⟨w.heap.size, 0, none⟩ (.int .i64 (min sf f))).setCell ⟨w.heap.size, 1, none⟩ (.int .i64 (max st t)) = w3 at *
          go_wp2
          go_roundw
          case rel => exact ⟨k + 1, by omega, by go_num, by rw [HQ2.out], by rw [HQ2.out]; exact HO2.out, by rw [HQ2.out]; exact HB2.out, HW2.out, hsz3⟩
          case measure => simp [intOf]; omega
    · obtain rfl : n = k := by omega
      have hc := HPC.out n
      generalize P n = Pk at *
      obtain ⟨O, ⟨sf, st⟩, D⟩ := Pk
      simp only at hc HO HB HPE
      obtain ⟨s0, s1⟩ := HB.out.two
      have hz := HB.out.lt
      have hsz2 := HW.out.2
      cases D
      · have HR : Hid (R = O ++ [(sf, st)]) := by show _ = _; rw [HPE.out]; rfl
        clear HPE
        go_wp2_with (at_builtin; refine wpList_app1 E29 rfl _ _ rfl HO.out [.int .i64 sf, .int .i64 st] rfl (cells2 rfl rfl) rfl rfl (by omega) hsz2 ?_; intro v' w3 ho hg)
        go_ret
        refine ⟨⟨v', rfl, ?_⟩, below_app HW.out.1 (by omega) HO.out hg HW.out.1.size⟩
        rw [HR.out, fm_snoc]
        exact ownsRow_mono (by simpa using ho) (by omega)
      · have HR : Hid (R = O) := by show _ = _; rw [HPE.out]; rfl
        clear HPE
        go_wp2
        go_ret
        refine ⟨⟨_, rfl, ?_⟩, HW.out.1⟩
        rw [HR.out]
        exact ownsRow_mono HO.out (by omega)

def nto (l : List Sp) (k : Nat) : List Sp := (Sched.solid (l.take k)).foldl Sched.put []
theorem nto_step {l : List Sp} {k : Nat} {x : Sp} (h : l[k]? = some x) : nto l (k + 1) = if x.1 < x.2 then Sched.put (nto l k) x else nto l k := by
  have hk := (List.getElem?_eq_some_iff.1 h).1
  unfold nto Sched.solid
  rw [List.take_succ_eq_append_getElem hk, List.filter_append, (List.getElem?_eq_some_iff.1 h).2]
  by_cases hx : x.1 < x.2 <;> simp [hx]
theorem nto_good {l : List Sp} (hl : ∀ s ∈ l, I64 s.1 ∧ I64 s.2) : ∀ k, k ≤ l.length → (nto l k).length ≤ k ∧ ∀ s ∈ nto l k, I64 s.1 ∧ I64 s.2
  | 0, _ => by simp [nto, Sched.solid]
  | k + 1, hk => by
    obtain ⟨h1, h2⟩ := nto_good hl k (by omega)
    obtain ⟨x, hx⟩ : ∃ x, l[k]? = some x := ⟨_, List.getElem?_eq_getElem (by omega)⟩
    rw [nto_step hx]
    split
    · have := put_len' (nto l k) x
      exact ⟨by omega, put_I64 h2 (hl x (List.mem_of_getElem? hx))⟩
    · exact ⟨by omega, h2⟩
theorem any_snoc' {α : Type} {l : List α} {k : Nat} {s : α} (p : α → Bool) (h : l[k]? = some s) : (l.take (k + 1)).any p = ((l.take k).any p || p s) := by
  have hk := (List.getElem?_eq_some_iff.1 h).1
  rw [List.take_succ_eq_append_getElem hk, List.any_append, (List.getElem?_eq_some_iff.1 h).2]; simp

set_option maxRecDepth 100000 in
set_option maxHeartbeats 3200000 in
theorem rnorm_any (l : List Sp) (v : Value) (w : World) (h : Spans w v l) (hl : l.length ≤ 1000) : Calls Try.prog 33 #[v] w (NormPost l w) := by
  have HS := Lib.hid h
  have HI := Lib.hid h.bd
  obtain ⟨a, c, rfl, -⟩ := h.shape
  have HN1 := Lib.hid (fun k x => @nto_step l k x)
  have HNG := Lib.hid (nto_good h.bd)
  have HNE : Hid (nto l l.length = Sched.nrm l) := by show _ = _; unfold nto Sched.nrm; rw [List.take_length]
  have HN0 : Hid (nto l 0 = []) := by show _ = _; simp [nto, Sched.solid]
  clear h
  generalize nto l = N at *
  generalize hn : l.length = n at *
  have HN := Lib.hid hn
  clear hn
  go_enter Try.func33, Try.ntmps33
  go_wp2_with fail
  go_loopw [5] (fun i wr => ∃ k : Nat, k ≤ n ∧ i = .int .i64 k ∧ Hid ((l.take k).any bad = false) ∧ Hid (Below w.heap.size w wr)) (fun i _ => n - (intOf i).toNat)
  case atStart => exact ⟨0, Nat.zero_le _, rfl, by show _ = _; simp, Below.refl _ _⟩
  case round =>
    obtain ⟨k, hk, rfl, HB, HW⟩ := hrel
    by_cases hlt : k < n
    · obtain ⟨x, hx⟩ : ∃ x, l[k]? = some x := ⟨_, List.getElem?_eq_getElem (by rw [HN.out]; exact hlt)⟩
      have HQ := Lib.hid (any_snoc' bad hx)
      have HA : Hid (bad x = true → l.any bad = true) := fun h => List.any_eq_true.2 ⟨_, List.mem_of_getElem? hx, h⟩
      obtain ⟨b, off, rfl, hbl, c1, c2⟩ := (HS.out.below HW.out).cell hx
      clear hx
      obtain ⟨f, t⟩ := x
      simp only at c1 c2
      have hck := rcheck_any f t wr
      unfold spv at hck
      by_cases hbd : bad (f, t) = true
      · have hz : chk (f, t) = 60 := if_pos hbd
        have HX : Hid (l.any bad = true) := HA.out hbd
        rw [hz] at hck
        clear hbd hz HA
        go_wp2_with fail
        refine hck.mono ?_
        rintro e w1 ⟨rfl, hb1⟩
        clear hck
        go_wp2
        go_ret2
        refine ⟨⟨.slice none 0 0, by unfold errE; rw [HX.out]; rfl, ?_⟩, HW.out.trans (hb1.mono HW.out.size)⟩
        unfold nrmE
        rw [HX.out]
        exact World.ownsRow_nil _ _ _ _
      · have hz : chk (f, t) = 0 := if_neg hbd
        have HB2 : Hid ((l.take (k + 1)).any bad = false) := by show _ = _; rw [HQ.out, HB.out]; simpa using hbd
        rw [hz] at hck
        clear hbd hz HA
        go_wp2_with fail
        refine hck.mono ?_
        rintro e w1 ⟨rfl, hb1⟩
        clear hck
        go_wp2
        go_roundw
        case rel => exact ⟨k + 1, by omega, by go_num, HB2, HW.out.trans (hb1.mono HW.out.size)⟩
        case measure => simp [intOf]; omega
    · obtain rfl : n = k := by omega
      have HX : Hid (l.any bad = false) := by have := HB.out; rwa [← HN.out, List.take_length] at this
      clear HB
      go_wp2_with fail
      go_loopw [4, 6] (fun u i wz => ∃ k : Nat, k ≤ n ∧ i = .int .i64 k ∧ Hid (wz.ownsRow w.heap.size 23 2 u (N k).length ((N k).flatMap encSp)) ∧ Hid (Below w.heap.size w wz)) (fun _ i _ => n - (intOf i).toNat)
      case atStart => exact ⟨0, Nat.zero_le _, rfl, by rw [HN0.out]; exact World.ownsRow_nil _ _ _ _, HW⟩
      case round =>
        clear HW
        obtain ⟨k, hk, rfl, HO, HW⟩ := hrel
        by_cases hlt2 : k < n
        · obtain ⟨x, hx⟩ : ∃ x, l[k]? = some x := ⟨_, List.getElem?_eq_getElem (by rw [HN.out]; exact hlt2)⟩
          have HQ := Lib.hid (HN1.out k x hx)
          have hxi := HI.out x (List.mem_of_getElem? hx)
          obtain ⟨b, off, rfl, hbl, c1, c2⟩ := (HS.out.below HW.out).cell hx
          obtain ⟨hg1, hg2⟩ := HNG.out k hk
          obtain ⟨ao, co, rfl, -⟩ := owns_shape HO.out
          clear hx
          obtain ⟨f, t⟩ := x
          simp only at c1 c2 HQ
          go_upto_region 10 with fail
          by_cases hft : f < t
          · go_quiet (fail)
            generalize hW : World.drewN _ _ = w2 at *
            have hb2 : Below wr.heap.size wr w2 := by rw [← hW]; exact below_drewN (Below.refl _ _) _
            clear hW
            have d1 := (bcell hb2 b (off + k * 2) hbl).trans c1
            have d2 := (bcell hb2 b (off + k * 2 + 1) hbl).trans c2
            replace HO := Lib.hid (ow_below HO.out hb2)
            replace HW := Lib.hid (HW.out.trans (hb2.mono HW.out.size))
            clear c1 c2 hb2
            have hput := rput_any (N k) _ (f, t) w2 (Spans.of_owns HO.out (by omega) hg2) (by omega)
            have HQ2 : Hid (N (k + 1) = Sched.put (N k) (f, t)) := HQ.out.trans (if_pos hft)
            clear HQ hg2
            unfold spv at hput
            go_wp2_with fail
            refine hput.mono ?_
            rintro e w3 ⟨⟨v3, rfl, ho⟩, hb3⟩
            clear hput d1 d2
            have hsz := HW.out.size
            go_wp2
            go_roundw
            case rel => exact ⟨k + 1, by omega, by go_num, by rw [HQ2.out]; exact ownsRow_mono ho hsz, HW.out.trans (hb3.mono hsz)⟩
            case measure => simp [intOf]; omega
          · have hd : decide (f < t) = false := by simpa using hft
            have HQ2 : Hid (N (k + 1) = N k) := HQ.out.trans (if_neg hft)
            go_quiet (fail)
            generalize hW : World.drewN _ _ = w2 at *
            have hb2 : Below wr.heap.size wr w2 := by rw [← hW]; exact below_drewN (Below.refl _ _) _
            clear hW
            replace HO := Lib.hid (ow_below HO.out hb2)
            replace HW := Lib.hid (HW.out.trans (hb2.mono HW.out.size))
            clear c1 c2 hb2 HQ
            go_wp2
            go_roundw
            case rel => exact ⟨k + 1, by omega, by go_num, by rw [HQ2.out]; exact HO.out, HW⟩
            case measure => simp [intOf]; omega
        · obtain rfl : n = k := by omega
          rw [HNE.out] at HO
          go_wp2
          go_ret2
          refine ⟨⟨_, by unfold errE; rw [HX.out]; rfl, ?_⟩, HW.out⟩
          unfold nrmE
          rw [HX.out]
          exact HO.out
end Go.Proofs.Ytiahmhmchppjgaa
