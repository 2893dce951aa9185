/- The walk of SchedNorms. -/
import Derived.Test.YtiahmhmchppjgaaQ4
import Derived.Test.YtiahmhmchppjgaaW5
namespace Go.Proofs.Ytiahmhmchppjgaa
open Go.RowKit Go.Shelf
open Sched (Sp bad)

set_option maxRecDepth 100000 in
set_option maxHeartbeats 1600000 in
theorem norms_walk (l0 : List Sp) (v0 : Value) (i : Int) (w : World) (h : Spans w v0 l0) :
    Calls Try.prog 8 #[v0, .int .i64 i] w fun e w' => e = .returned (.bool true) ∧ Below w.heap.size w w' := by
  have hfew := few_any l0 v0 w h
  have hlen : (l0.take 60).length ≤ 60 := List.length_take_le _ _
  clear h
  generalize l0.take 60 = l at *
  go_enter Try.func8, Try.ntmps8
  go_wp2_with fail
  refine hfew.mono ?_
  rintro e w' ⟨⟨v, rfl, h⟩, rfl⟩
  clear hfew
  have HS := Lib.hid (fun W (hW : Below w.heap.size w W) => h.below hW)
  have HLN := Lib.hid hlen
  have HBD := Lib.hid h.bd
  have HNB := Lib.hid (@nrmE_bd l)
  have HNL := Lib.hid (nrmE_len h.bd)
  clear h
  go_wp2_with fail
  refine (clone_any l v w (HS.out w (Below.refl _ _))).mono ?_
  rintro e w1 ⟨⟨v1, rfl, ho⟩, hb1⟩
  have H1 : Hid (Spans w1 v1 l) := Spans.of_owns ho (by omega) HBD.out
  have HB := Lib.hid hb1
  clear ho hb1
  go_wp2_with fail
  refine (norm_any l v w1 (HS.out w1 HB.out)).mono ?_
  unfold NormPost
  rintro e w2 ⟨⟨v2, rfl, ho⟩, hb⟩
  have H2 : Hid (Spans w2 v2 (nrmE l)) := Spans.of_owns ho (by have := HNL.out; omega) (fun s hs => by have := HNB.out s hs; unfold I64; omega)
  replace H1 := Lib.hid (H1.out.below hb)
  replace HB := Lib.hid (bt HB.out hb)
  clear ho hb
  go_wp2_with fail
  refine (rnorm_any l v w2 (HS.out w2 HB.out) (by omega)).mono ?_
  unfold NormPost
  rintro e w3 ⟨⟨v3, rfl, ho⟩, hb⟩
  have H3 : Hid (Spans w3 v3 (nrmE l)) := Spans.of_owns ho (by have := HNL.out; omega) (fun s hs => by have := HNB.out s hs; unfold I64; omega)
  replace H1 := Lib.hid (H1.out.below hb)
  replace H2 := Lib.hid (H2.out.below hb)
  replace HB := Lib.hid (bt HB.out hb)
  clear ho hb HNB HNL
  go_wp2_with fail
  refine (begun_any w3).mono ?_
  rintro e w4 ⟨rfl, hb⟩
  replace H1 := Lib.hid (H1.out.below hb)
  replace H2 := Lib.hid (H2.out.below hb)
  replace H3 := Lib.hid (H3.out.below hb)
  replace HB := Lib.hid (bt HB.out hb)
  clear hb
  go_wp2_with fail
  refine (equal_any (nrmE l) (nrmE l) v2 v3 w4 H2.out H3.out).mono ?_
  rintro e w5 ⟨rfl, hb⟩
  (try simp only [decide_true])
  replace H1 := Lib.hid (H1.out.below hb)
  replace HB := Lib.hid (bt HB.out hb)
  clear hb H2 H3
  go_wp2_with fail
  refine (total_any l v w5 (HS.out w5 HB.out) (by omega)).mono ?_
  rintro e w6 ⟨rfl, hb⟩
  replace H1 := Lib.hid (H1.out.below hb)
  replace HB := Lib.hid (bt HB.out hb)
  clear hb
  go_wp2_with fail
  refine (rtotal_any l v w6 (HS.out w6 HB.out) (by omega)).mono ?_
  rintro e w7 ⟨rfl, hb⟩
  replace H1 := Lib.hid (H1.out.below hb)
  replace HB := Lib.hid (bt HB.out hb)
  clear hb
  go_wp2_with fail
  refine (alone_any l v i w7 (HS.out w7 HB.out)).mono ?_
  rintro e w8 ⟨rfl, hb⟩
  replace H1 := Lib.hid (H1.out.below hb)
  replace HB := Lib.hid (bt HB.out hb)
  clear hb
  go_wp2_with fail
  refine (ralone_any l v i w8 (HS.out w8 HB.out)).mono ?_
  rintro e w9 ⟨rfl, hb⟩
  replace H1 := Lib.hid (H1.out.below hb)
  replace HB := Lib.hid (bt HB.out hb)
  clear hb
  have hab : (aloneB l i == aloneB l i) = true := by simp
  generalize aloneB l i = ab at *
  cases ab
  all_goals
    go_wp2_with fail
    refine (equal_any l l v v1 w9 (HS.out w9 HB.out) H1.out).mono ?_
    rintro e w10 ⟨rfl, hb⟩
    (try simp only [decide_true])
    replace HB := Lib.hid (bt HB.out hb)
    clear hb
    go_wp2
    go_ret
    exact ⟨rfl, HB.out⟩
end Go.Proofs.Ytiahmhmchppjgaa
