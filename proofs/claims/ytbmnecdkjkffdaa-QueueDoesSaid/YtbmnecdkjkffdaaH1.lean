/- A queue that no call made. -/
import Derived.Test.YtbmnecdkjkffdaaG3
namespace Go.Proofs.Ytbmnecdkjkffdaa
open Go.RowKit Go.Shelf

/-- nil, or a zero queue. -/
def Un (w : World) (p : Option Addr) : Prop := p = none ∨ ∃ q, p = some ⟨q, 0, none⟩ ∧ Blk w q 47 #[.bool false, .slice none 0 0, .int .i64 0]
theorem Un.keep {w w' : World} {p : Option Addr} (h : Un w p) (hb : Below w.heap.size w w') : Un w' p := by
  rcases h with h | ⟨q, h1, h2⟩
  · exact .inl h
  · exact .inr ⟨q, h1, h2.keep hb⟩
theorem Un.made {w : World} {p : Option Addr} (h : Un w p) : Calls Try.prog 27 #[.pointer p] w fun e w' => e = .returned (.bool false) ∧ w = w' := by
  rcases h with rfl | ⟨q, rfl, h2⟩
  · exact made_nil w
  · exact made_any q false _ 0 w h2
theorem len_un {w : World} {p : Option Addr} (h : Un w p) : Calls Try.prog 12 #[.pointer p] w fun e w' => e = .returned (.int .i64 0) ∧ w = w' := by
  have hm := h.made
  clear h
  go_enter Try.func12, Try.ntmps12
  go_wp2_with (go_at_call 27; refine hm.mono ?_; rintro e w' ⟨rfl, rfl⟩)
  go_ret
  exact ⟨rfl, rfl⟩
theorem now_un {w : World} {p : Option Addr} (h : Un w p) : Calls Try.prog 19 #[.pointer p] w fun e w' => e = .returned (.int .i64 0) ∧ w = w' := by
  have hm := h.made
  clear h
  go_enter Try.func19, Try.ntmps19
  go_wp2_with (go_at_call 27; refine hm.mono ?_; rintro e w' ⟨rfl, rfl⟩)
  go_ret
  exact ⟨rfl, rfl⟩
theorem drop_un {w : World} {p : Option Addr} (x : Int) (h : Un w p) : Calls Try.prog 18 #[.pointer p, .int .i64 x] w fun e w' => e = .returned (.int .i64 0) ∧ Below w.heap.size w w' := by
  have hm := h.made
  clear h
  refine (callsIn_wide (n := 3)).1 ?_
  refine callsIn_of_wp_marks Try.func18 rfl trivial ?_ rfl
  refine wpIn_wide.2 ?_
  simp only [Try.ntmps18, List.size_toArray, List.length_cons, List.length_nil, Nat.reduceAdd, Nat.reduceSub, Array.replicate_succ, Array.replicate_zero, List.push_toArray, List.append_toArray, List.nil_append, List.cons_append]
  go_wp2_with (go_at_call 27; refine hm.mono ?_; rintro e w' ⟨rfl, rfl⟩)
  exact ⟨.int .i64 0, by simp [results, Try.f18, go_sem], ⟨rfl, Below.refl _ _⟩⟩
theorem push_un {w : World} {p : Option Addr} (x : Ev) (h : Un w p) : Calls Try.prog 10 #[.pointer p, .agg (encE x).toArray] w fun e w' => e = .returned (.int .i64 1) ∧ Below w.heap.size w w' := by
  have hm := Lib.hid (h.keep (below1 w (.cells (encE x).toArray 31))).made
  have HB := Lib.hid (below1 w (.cells (encE x).toArray 31))
  clear h
  go_enter Try.func10, Try.ntmps10
  go_upto_region 1 with fail
  change Code.wp _ _ _ _ (w.alloc (.cells (encE x).toArray 31))
  generalize w.alloc (.cells (encE x).toArray 31) = W0 at *
  go_wp2_with (go_at_call 27; refine hm.out.mono ?_; rintro e w' ⟨rfl, rfl⟩)
  go_ret
  exact ⟨rfl, HB.out⟩
theorem pop_un {w : World} {p : Option Addr} (h : Un w p) : Calls Try.prog 11 #[.pointer p] w fun e w' => e = .returned (.tuple #[.agg (encE E0).toArray, .int .i64 1]) ∧ Below w.heap.size w w' := by
  have hm := Lib.hid (h.keep (below1 w (.cells (encE E0).toArray 31))).made
  have HB : Hid (Blk (w.alloc (.cells (encE E0).toArray 31)) w.heap.size 31 (encE E0).toArray) := Blk.new' rfl
  have HBW : Hid (∀ W1, (w.alloc (.cells (encE E0).toArray 31)).grownBy W1 (some w.heap.size) → Below w.heap.size w W1) := fun W1 hg => (below1 w _).grown hg (by simp) (fun k e => by cases e; exact Nat.le_refl _)
  clear h
  go_enter Try.func11, Try.ntmps11
  go_upto_region 1 with fail
  change Code.wp _ _ _ _ (w.alloc (.cells (encE E0).toArray 31))
  generalize w.alloc (.cells (encE E0).toArray 31) = W0 at *
  go_wp2_with (first | (go_at_call 27; refine hm.out.mono ?_; go_must (rintro e w' ⟨rfl, rfl⟩)) | (refine wpList_storeW' W31 rfl rfl HB.out rfl (encE E0) rfl rfl (encE_one _) rfl ?_; intro W1 hb1 hg1; have HB1 := Lib.hid hb1; have HG1 := Lib.hid hg1; clear hb1 hg1))
  refine bodyPost_ret (results_cell2 rfl W31 rfl (cs := encE E0) rfl HB1.out.list) rfl ?_
  exact ⟨rfl, HBW.out _ HG1.out⟩
theorem peek_un {w : World} {p : Option Addr} (h : Un w p) : Calls Try.prog 17 #[.pointer p] w fun e w' => e = .returned (.tuple #[.agg (encE E0).toArray, .bool false]) ∧ Below w.heap.size w w' := by
  have hm := Lib.hid (len_un (h.keep (below1 w (.cells (encE E0).toArray 31))))
  have HB : Hid (Blk (w.alloc (.cells (encE E0).toArray 31)) w.heap.size 31 (encE E0).toArray) := Blk.new' rfl
  have HBW : Hid (∀ W1, (w.alloc (.cells (encE E0).toArray 31)).grownBy W1 (some w.heap.size) → Below w.heap.size w W1) := fun W1 hg => (below1 w _).grown hg (by simp) (fun k e => by cases e; exact Nat.le_refl _)
  clear h
  go_enter Try.func17, Try.ntmps17
  go_upto_region 1 with fail
  change Code.wp _ _ _ _ (w.alloc (.cells (encE E0).toArray 31))
  generalize w.alloc (.cells (encE E0).toArray 31) = W0 at *
  go_wp2_with (first | (go_at_call 12; refine hm.out.mono ?_; go_must (rintro e w' ⟨rfl, rfl⟩)) | (refine wpList_storeW' W31 rfl rfl HB.out rfl (encE E0) rfl rfl (encE_one _) rfl ?_; intro W1 hb1 hg1; have HB1 := Lib.hid hb1; have HG1 := Lib.hid hg1; clear hb1 hg1))
  refine bodyPost_ret (results_cell2 rfl W31 rfl (cs := encE E0) rfl HB1.out.list) rfl ?_
  exact ⟨rfl, HBW.out _ HG1.out⟩
/-- What Peek tells. -/
def peekE (h : List Ev) : Ev × Bool := match h with | [] => (E0, false) | x :: _ => (x, true)
theorem peek_any (q : Nat) (sv : Value) (h : List Ev) (now : Int) (w : World) (hq : Qu w q sv h now) (hl : h.length ≤ 16384) :
    Calls Try.prog 17 #[.pointer (some ⟨q, 0, none⟩)] w fun e w' => e = .returned (.tuple #[.agg (encE (peekE h).1).toArray, .bool (peekE h).2]) ∧ Below w.heap.size w w' := by
  have HQ := Lib.hid (hq.gw ((Gw.refl w).alloc (.cells (encE E0).toArray 31)))
  have HM := Lib.hid (len_any q sv h now _ HQ.out)
  have HB : Hid (Blk (w.alloc (.cells (encE E0).toArray 31)) w.heap.size 31 (encE E0).toArray) := Blk.new' rfl
  have HBW : Hid (∀ W1, (w.alloc (.cells (encE E0).toArray 31)).grownBy W1 (some w.heap.size) → Below w.heap.size w W1) := fun W1 hg => (below1 w _).grown hg (by simp) (fun k e => by cases e; exact Nat.le_refl _)
  clear hq
  cases h with
  | nil =>
    have HM0 : Hid (Calls Try.prog 12 #[.pointer (some ⟨q, 0, none⟩)] (w.alloc (.cells (encE E0).toArray 31)) fun e w' => e = .returned (.int .i64 0) ∧ w.alloc (.cells (encE E0).toArray 31) = w') := HM.out
    clear HM HQ
    go_enter Try.func17, Try.ntmps17
    go_upto_region 1 with fail
    change Code.wp _ _ _ _ (w.alloc (.cells (encE E0).toArray 31))
    generalize w.alloc (.cells (encE E0).toArray 31) = W0 at *
    go_wp2_with (first | (go_at_call 12; refine HM0.out.mono ?_; go_must (rintro e w' ⟨rfl, rfl⟩)) | (refine wpList_storeW' W31 rfl rfl HB.out rfl (encE E0) rfl rfl (encE_one _) rfl ?_; intro W1 hb1 hg1; have HB1 := Lib.hid hb1; have HG1 := Lib.hid hg1; clear hb1 hg1))
    refine bodyPost_ret (results_cell2 rfl W31 rfl (cs := encE E0) rfl HB1.out.list) rfl ?_
    exact ⟨rfl, HBW.out _ HG1.out⟩
  | cons x h =>
    have HC := Lib.hid (HQ.out.1.cell 1)
    obtain ⟨g, cap, n, hsv, hcap, hcm, hn⟩ := qu_shape HQ.out (by simp)
    subst hsv
    have HX := Lib.hid (qu_at hl HQ.out (k := 0) (x := x) rfl)
    simp only [Nat.zero_mul, Nat.zero_add] at HX
    have HX' : Hid (∀ j u, (encE x)[j]? = some u → (w.alloc (.cells (encE E0).toArray 31)).cell? ⟨g, 0 + j, none⟩ = some u) := fun j u hu => by rw [Nat.zero_add]; exact HX.out j u hu
    have cq : (w.alloc (.cells (encE E0).toArray 31)).cell? ⟨q, 1, none⟩ = some (.slice (some ⟨g, 0, none⟩) n cap) := HC.out
    have hn0 : 0 < n := by rw [← hn]; simp
    have hne : ((n : Int) == 0) = false := by simp; omega
    have HM1 : Hid (Calls Try.prog 12 #[.pointer (some ⟨q, 0, none⟩)] (w.alloc (.cells (encE E0).toArray 31)) fun e w' => e = .returned (.int .i64 n) ∧ w.alloc (.cells (encE E0).toArray 31) = w') := by
      have := HM.out
      rw [hn] at this
      exact this
    clear HM HQ HX HC hn
    go_enter Try.func17, Try.ntmps17
    go_upto_region 1 with fail
    change Code.wp _ _ _ _ (w.alloc (.cells (encE E0).toArray 31))
    generalize w.alloc (.cells (encE E0).toArray 31) = W0 at *
    go_wp2_with (first | (go_at_call 12; refine HM1.out.mono ?_; go_must (rintro e w' ⟨rfl, rfl⟩)) | (refine wpList_loadW W31 rfl rfl rfl (encE x) rfl HX'.out ?_) | (refine wpList_storeW' W31 rfl rfl HB.out rfl (encE x) rfl rfl (encE_one _) rfl ?_; intro W1 hb1 hg1; have HB1 := Lib.hid hb1; have HG1 := Lib.hid hg1; clear hb1 hg1))
    refine bodyPost_ret (results_cell2 rfl W31 rfl (cs := encE x) rfl HB1.out.list) rfl ?_
    exact ⟨rfl, HBW.out _ HG1.out⟩
end Go.Proofs.Ytbmnecdkjkffdaa
