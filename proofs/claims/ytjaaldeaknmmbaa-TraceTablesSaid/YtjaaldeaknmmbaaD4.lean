/- rounds: the rounds that there are, rising. -/
import Derived.Test.YtjaaldeaknmmbaaS12
import Derived.Test.YtjaaldeaknmmbaaShelf
import Derived.Shelf.SortM.SortNone
import Derived.Lib.OwnBridge
namespace Go.Proofs.Ytjaaldeaknmmbaa
open Go.RowKit Go.Shelf

theorem belowGrow {B : Nat} {w0 w : World} (h : Below B w0 w) (hB : B ≤ w.heap.size) (os : Array Obj) : Below B w0 (Sort.grow w os) :=
  h.trans ⟨rfl, rfl, rfl, by simp, fun k hk => Sort.heap_grow_old w os (by omega)⟩
def srtI (l : List Int) : List Int := l.mergeSort fun x y => decide (x ≤ y)
theorem srtI_perm (l : List Int) : (srtI l).Perm l := List.mergeSort_perm _ _
theorem srtI_sorted (l : List Int) : (srtI l).Pairwise (fun x y => x ≤ y) := by
  have h := List.pairwise_mergeSort (le := fun x y : Int => decide (x ≤ y)) (fun a b c h1 h2 => by simp at *; omega) (fun a b => by simp; omega) l
  exact h.imp (fun h => by simpa using h)
/-- slices.Sort on what the call owns. -/
theorem sortI_own (l : List Int) (v : Value) (B : Nat) (w : World) (hB : B ≤ w.heap.size) (hl : l.length ≤ 17592186044416) (h : w.ownsRow B 3 1 v l.length (l.map (Value.int .i64))) :
    Calls Try.prog 51 #[v] w fun e w' => e = .returned (.tuple #[]) ∧ w'.ownsRow B 3 1 v l.length ((srtI l).map (Value.int .i64)) ∧ Below B w w' := by
  by_cases hv : v = .slice none 0 0
  · subst hv
    have h0 : l = [] := by
      rcases h.2 with ⟨_, h0⟩ | ⟨g, cap, cur, e, _⟩
      · exact List.eq_nil_of_length_eq_zero h0
      · simp at e
    subst h0
    refine (AnyM.slices_Sort_int_none Try.laysSlM5_f51 none 0 w).mono fun e w' ⟨he, hw⟩ => ?_
    subst hw
    exact ⟨he, by simpa [srtI] using h, Below.refl _ _⟩
  · obtain ⟨g, cap, rfl, hg, hlt, _, _, _, hH⟩ := Lib.holds_of_ownsRow h hv
    refine (Try.slices_Sort_int g 0 cap l w hH hlt (by omega)).mono fun e w' ⟨he, n, os, hw⟩ => ?_
    subst hw
    have hsl : (srtI l).length = l.length := (srtI_perm l).length_eq
    refine ⟨he, ?_, belowGrow (Lib.below_putRow (Below.refl _ _) hg) (by simpa using hB) os⟩
    have h1 := Lib.ownsRow_putRow (q := n) h (ys := srtI l) hsl (Nat.le_refl _)
    rw [List.take_of_length_le (by rw [hsl]; exact Nat.le_refl _)] at h1
    refine h1.kept (row := none) ⟨rfl, rfl, rfl, by simp, fun k hk _ => Sort.heap_grow_old _ os hk⟩ (.inr (by simp [Value.ownBlock]))
/-- The rounds that there are, rising. -/
def IsRounds (l : List Sn) (R : List Int) : Prop := R.Pairwise (· < ·) ∧ ∀ r, r ∈ R ↔ ∃ x ∈ l, x.r = r
theorem rising_ext : ∀ {R S : List Int}, R.Pairwise (· < ·) → S.Pairwise (· < ·) → (∀ r, r ∈ R ↔ r ∈ S) → R = S
  | [], [], _, _, _ => rfl
  | [], s :: S, _, _, h => absurd ((h s).2 (by simp)) (by simp)
  | r :: R, [], _, _, h => absurd ((h r).1 (by simp)) (by simp)
  | r :: R, s :: S, h1, h2, h => by
    rw [List.pairwise_cons] at h1 h2
    have hrs : r = s := by
      rcases List.mem_cons.1 ((h r).1 (by simp)) with e | e
      · exact e
      · rcases List.mem_cons.1 ((h s).2 (by simp)) with e2 | e2
        · exact e2.symm
        · have := h2.1 r e; have := h1.1 s e2; omega
    subst hrs
    have : R = S := rising_ext h1.2 h2.2 fun x => by
      constructor
      · intro hx
        rcases List.mem_cons.1 ((h x).1 (List.mem_cons_of_mem _ hx)) with e | e
        · have := h1.1 x hx; omega
        · exact e
      · intro hx
        rcases List.mem_cons.1 ((h x).2 (List.mem_cons_of_mem _ hx)) with e | e
        · have := h2.1 x hx; omega
        · exact e
    rw [this]
theorem IsRounds.same {l : List Sn} {R S : List Int} (h : IsRounds l R) (h' : IsRounds l S) : R = S := rising_ext h.1 h'.1 fun r => by rw [h.2, h'.2]
theorem isRounds_srt {l : List Sn} {rs : List Int} (hs : SeenR l rs l.length) (hd : rs.Nodup) : IsRounds l (srtI rs.reverse) := by
  have hp := srtI_perm rs.reverse
  refine ⟨?_, fun r => ?_⟩
  · have h1 := srtI_sorted rs.reverse
    have h2 : (srtI rs.reverse).Nodup := hp.nodup_iff.2 (List.pairwise_reverse.2 (hd.imp fun h => Ne.symm h))
    exact (h1.and h2).imp (fun h => by have := h.1; have := h.2; omega)
  · rw [hp.mem_iff, List.mem_reverse]
    have := hs r
    rw [List.take_length] at this
    constructor
    · intro h
      rw [List.contains_iff_mem.2 h] at this
      obtain ⟨x, hx, hr⟩ := List.any_eq_true.1 this.symm
      exact ⟨x, hx, by simpa using hr⟩
    · rintro ⟨x, hx, hr⟩
      rw [← List.contains_iff_mem, this, List.any_eq_true]
      exact ⟨x, hx, by simpa using hr⟩
def RoundsOwn (l : List Sn) (w : World) (e : Ending) (w' : World) : Prop := (∃ v R, e = .returned v ∧ w'.ownsRow (w.heap.size + 1) 3 1 v R.length (R.map (Value.int .i64)) ∧ IsRounds l R ∧ R.length ≤ l.length) ∧ Below w.heap.size w w'
def RoundsPost (l : List Sn) (w : World) (e : Ending) (w' : World) : Prop := (∃ v R, e = .returned v ∧ Ns w' v R ∧ IsRounds l R ∧ R.length ≤ l.length) ∧ Below w.heap.size w w'

set_option maxRecDepth 100000 in
set_option maxHeartbeats 1600000 in
theorem rounds_any (l : List Sn) (lv : Value) (w : World) (h : Snaps w lv l) (hl : l.length ≤ 300) (hi : ∀ x ∈ l, I64 x.r) : Calls Try.prog 36 #[lv] w (RoundsOwn l w) := by
  have HPO : Hid (∀ v rs w', Below w.heap.size w w' → w'.ownsRow (w.heap.size + 1) 3 1 v rs.length ((srtI rs.reverse).map (Value.int .i64)) → SeenR l rs l.length → rs.Nodup → rs.length ≤ l.length → RoundsOwn l w (.returned v) w') := fun v rs w' hb ho hs hd hn =>
    ⟨⟨v, srtI rs.reverse, rfl, by rw [(srtI_perm rs.reverse).length_eq, List.length_reverse]; exact ho, isRounds_srt hs hd, by rw [(srtI_perm rs.reverse).length_eq, List.length_reverse]; exact hn⟩, hb⟩
  have HS := Lib.hid h
  have HI := Lib.hid (fun (k : Nat) x (hk : l[k]? = some x) => hi x (List.mem_of_getElem? hk))
  obtain ⟨a, c, rfl, q1, q2, q3⟩ := h.shape
  clear h hi
  generalize RoundsOwn l w = POST at *
  generalize hnn : l.length = n at *
  have HN := Lib.hid hnn
  clear hnn
  have hmm := @run_makeMap Try.prog
  go_enter Try.func36, Try.ntmps36
  go_wp2
  clear hmm
  have hB0 : Below w.heap.size w (w.alloc (.map #[] 0)) := below1 w _
  have hS0 : Seen Try.prog 3 4 (w.alloc (.map #[] 0)) w.heap.size 0 [] := Seen.made w
  have hO0 : (w.alloc (.map #[] 0)).ownsRow (w.heap.size + 1) 3 1 (.slice none 0 0) 0 [] := World.ownsRow_nil _ _ _ _
  generalize w.alloc (.map #[] 0) = w0 at *
  go_loopw [4, 10] (fun vs i wr => ∃ (k : Nat) (rs : List Int), k ≤ n ∧ i = .int .i64 k ∧ Hid (wr.ownsRow (w.heap.size + 1) 3 1 vs rs.length (rs.reverse.map (Value.int .i64))) ∧ Hid (Seen Try.prog 3 4 wr w.heap.size k rs) ∧ Hid (SeenR l rs k) ∧ Hid (rs.Nodup ∧ rs.length ≤ k) ∧ Hid (Below w.heap.size w wr)) (fun _ i _ => n - (intOf i).toNat)
  case atStart => exact ⟨0, [], Nat.zero_le _, rfl, hO0, hS0, fun r => rfl, ⟨by simp, by simp⟩, hB0⟩
  case round =>
    clear hS0 hB0 hO0
    obtain ⟨k, rs, hk, rfl, HO, HM, HR, HD, HW⟩ := hrel
    obtain ⟨vs, rfl⟩ : ∃ v, v = u4 := ⟨_, rfl⟩
    by_cases hlt : k < n
    · obtain ⟨x, hs⟩ : ∃ x, l[k]? = some x := ⟨_, List.getElem?_eq_getElem (by rw [HN.out]; exact hlt)⟩
      obtain ⟨b, off, rfl, hbl, hc⟩ := (HS.out.below HW.out).row (by rintro rfl; simp at hs)
      have HC := Lib.hid (sn_at hc hs)
      have hx := HI.out k x hs
      have HSX := Lib.hid hs
      have hbs := HW.out.size
      have HX64 := Lib.hid hx
      have HRL : Hid (rs.length ≤ 300) := by have := HD.out.2; show _ ≤ _; omega
      clear hc hs hx
      cases hcn : rs.contains x.r with
      | true =>
        have HQ : Hid (rs.contains x.r = true) := hcn
        have HR2 := Lib.hid (HR.out.skip HSX.out hcn)
        clear hcn
        go_wp2_with (first
          | ((with_reducible show wpList _ _ _ (Oper.mk (some 13) _ _ _ _ _ :: _) _ _); refine wpList_loadW W41 rfl rfl rfl (encS x) rfl HC.out ?_)
          | ((with_reducible show wpList _ _ _ (Oper.mk none (Op.store 41 _ _) _ _ _ _ :: _) _ _); refine wpList_boxW W41 rfl rfl rfl (encS x) rfl rfl (encS_one x) rfl ?_; go_must (intro W1 HX hal hz1; have k0 : W1.cell? ⟨wr.heap.size, 0, none⟩ = some (.int .i64 x.r) := HX.list0 rfl; have zz : wr.heap.size < W1.heap.size := (by omega); have HB1 := Lib.hid (HW.out.trans (hal.mono hbs)); have HM1 := Lib.hid (HM.out.keep hal); have HO1 := Lib.hid (ow_below HO.out hal); have HXX := Lib.hid HX; clear HX hal hz1))
          | ((with_reducible show wpList _ _ _ (Oper.mk (some 17) _ _ _ _ _ :: _) _ _); refine wpList_seen Try.underlying3 Try.underlying4 Try.underlying43 hz4 HM1.out rfl rfl rfl rfl HX64.out ?_; go_must (rw [HQ.out])))
        go_roundw
        case rel =>
          obtain ⟨D, e1, e2, e3⟩ := HM1.out
          exact ⟨k + 1, rs, by omega, by go_num, HO1, ⟨D, e1.mono (by omega), e2, e3⟩, HR2, ⟨HD.out.1, by have := HD.out.2; omega⟩, HB1⟩
        case measure => simp [intOf]; omega
      | false =>
        have HQ : Hid (rs.contains x.r = false) := hcn
        have HR2 := Lib.hid (HR.out.add HSX.out)
        have HD2 : Hid ((x.r :: rs).Nodup ∧ (x.r :: rs).length ≤ k + 1) := ⟨List.nodup_cons.2 ⟨fun h => by rw [← List.contains_iff_mem, hcn] at h; exact absurd h (by decide), HD.out.1⟩, by have := HD.out.2; simp; omega⟩
        have HRV : Hid (rs.reverse.map (Value.int .i64) ++ [Value.int .i64 x.r] = (x.r :: rs).reverse.map (Value.int .i64)) := by show _ = _; simp
        clear hcn
        go_wp2_with (first
          | ((with_reducible show wpList _ _ _ (Oper.mk (some 13) _ _ _ _ _ :: _) _ _); refine wpList_loadW W41 rfl rfl rfl (encS x) rfl HC.out ?_)
          | ((with_reducible show wpList _ _ _ (Oper.mk none (Op.store 41 _ _) _ _ _ _ :: _) _ _); refine wpList_boxW W41 rfl rfl rfl (encS x) rfl rfl (encS_one x) rfl ?_; go_must (intro W1 HX hal hz1; have k0 : W1.cell? ⟨wr.heap.size, 0, none⟩ = some (.int .i64 x.r) := HX.list0 rfl; have zz : wr.heap.size < W1.heap.size := (by omega); have HB1 := Lib.hid (HW.out.trans (hal.mono hbs)); have HM1 := Lib.hid (HM.out.keep hal); have HO1 := Lib.hid (ow_below HO.out hal); have HXX := Lib.hid HX; clear HX hal hz1))
          | ((with_reducible show wpList _ _ _ (Oper.mk (some 17) _ _ _ _ _ :: _) _ _); refine wpList_seen Try.underlying3 Try.underlying4 Try.underlying43 hz4 HM1.out rfl rfl rfl rfl HX64.out ?_; go_must (rw [HQ.out]))
          | ((with_reducible show wpList _ _ _ (Oper.mk none (Op.mapUpdate _ _ _ _) _ _ _ _ :: _) _ _); refine wpList_see Try.underlying3 Try.underlying4 Try.underlying43 HM1.out (by omega) rfl rfl rfl rfl HX64.out rfl ?_; go_must (intro W2 hm2 hg2; have HM2 := Lib.hid hm2; have HB2 : Hid (Below w.heap.size w W2) := (HB1.out.grown hg2 HB1.out.size (fun j e => by cases e; exact Nat.le_refl _)); have HX2 := Lib.hid (HXX.out.kept hg2 (fun e => by have := HM.out.lt; simp at e; omega)); have HO2 : Hid (W2.ownsRow (w.heap.size + 1) 3 1 vs rs.length (rs.reverse.map (Value.int .i64))) := Lib.hid (HO1.out.kept hg2 (.inr (fun e => by have := (HO1.out.lt _ e).1; omega))); clear k0 zz hm2 hg2; have k0 : W2.cell? ⟨wr.heap.size, 0, none⟩ = some (.int .i64 x.r) := HX2.out.list0 rfl; have zz : wr.heap.size < W2.heap.size := HX2.out.lt))
          | ((with_reducible show wpList _ _ _ (Oper.mk (some 26) _ _ _ _ _ :: _) _ _); refine wpList_app E23 rfl _ _ rfl (HO2.out.alloc _) (Src.new rfl) rfl rfl (by have := HRL.out; omega) (by have := HB2.out.size; simp; omega) ?_; go_must (intro v' W3 hown hgrow _; have HO3 := Lib.hid hown; have HG3 := Lib.hid hgrow; clear hown hgrow)))
        go_roundw
        case rel =>
          have hb3 : Below w.heap.size w W3 := below_app (HB2.out.alloc HB2.out.size _) (by omega) (HO2.out.alloc _) HG3.out (by have := HB2.out.size; simp; omega)
          have hm3 := (HM2.out.kept (World.grownBy_alloc W2 _ none) (by simp)).kept HG3.out (fun e => by have := (HO2.out.lt _ e.symm).1; omega)
          refine ⟨k + 1, x.r :: rs, by omega, by go_num, ?_, hm3, HR2, HD2, hb3⟩
          have := HO3.out
          rw [HRV.out] at this
          exact this
        case measure => simp [intOf]; omega
    · have hkn : k = n := by omega
      subst hkn
      have HSO := Lib.hid (sortI_own rs.reverse vs (w.heap.size + 1) wr (by have := HM.out.lt; omega) (by have := HD.out.2; simp; omega) (by rw [List.length_reverse]; exact HO.out))
      clear HM
      go_wp2_with fail
      refine HSO.out.mono ?_
      rintro e w3 ⟨rfl, ho, hb⟩
      rw [List.length_reverse] at ho
      have HO3 := Lib.hid ho
      have HB3 : Hid (Below w.heap.size w w3) := Lib.hid (HW.out.trans (hb.mono (by omega)))
      clear ho hb HSO
      go_wp2
      exact HPO.out vs rs _ HB3.out HO3.out HR.out HD.out.1 HD.out.2
end Go.Proofs.Ytjaaldeaknmmbaa
