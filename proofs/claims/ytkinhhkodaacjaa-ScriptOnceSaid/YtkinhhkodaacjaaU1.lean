/- Whether a host's operation may be. -/
import Derived.Test.YtkinhhkodaacjaaT2
namespace Go.Proofs.Ytkinhhkodaacjaa
open Go.RowKit Go.Shelf
open Md

def nodeH (n z : Int) : Bool := decide (0 ≤ z) && decide (z < n)
def kindH (m : Me) (x : Ho) : Bool :=
  if x.k = 1 then decide (x.v = 0) && decide (x.d.length ≤ 8)
  else if x.k = 2 then decide (x.v = 0) && decide (x.d.length = 0)
  else if x.k = 3 then decide (-1 ≤ x.v) && decide (x.v < (m.ml.length : Int)) && decide (x.d.length = 0)
  else false
/-- Whether an operation may be, with a list. -/
def mayH (m : Me) (x : Ho) : Bool := nodeH m.nodes x.n && nodeH m.nodes x.s && decide (0 ≤ x.r) && decide (x.r < 16) && kindH m x
set_option maxRecDepth 100000 in
set_option maxHeartbeats 1600000 in
theorem node_any (n z : Int) (b : Nat) (w : World) (hc : w.cell? ⟨b, 0, none⟩ = some (.int .i64 n)) :
    Calls Try.prog 62 #[.int .i64 z, .pointer (some ⟨b, 0, none⟩)] w fun e w' => e = .returned (.bool (nodeH n z)) ∧ w' = w := by
  have HP : Hid (∀ c, c = nodeH n z → (fun e w' => e = Ending.returned (.bool (nodeH n z)) ∧ w' = w) (.returned (.bool c)) w) := fun c hc => by subst hc; exact ⟨rfl, rfl⟩
  generalize (fun e w' => e = Ending.returned (.bool (nodeH n z)) ∧ w' = w) = POST at *
  by_cases h1 : 0 ≤ z
  · by_cases h2 : z < n
    · have HE : Hid (true = nodeH n z) := by show _ = _; simp [nodeH, h1, h2]
      go_enter Try.func62, Try.ntmps62
      go_wp2
      exact HP.out _ HE.out
    · have HE : Hid (false = nodeH n z) := by show _ = _; simp [nodeH, h2]
      go_enter Try.func62, Try.ntmps62
      go_wp2
      exact HP.out _ HE.out
  · have HE : Hid (false = nodeH n z) := by show _ = _; simp [nodeH, h1]
    go_enter Try.func62, Try.ntmps62
    go_wp2
    exact HP.out _ HE.out
set_option maxRecDepth 100000 in
set_option maxHeartbeats 3200000 in
theorem hmay_any (m : Me) (x : Ho) (w : World) (hx : x.d.length < 9223372036854775808) (_hml : m.ml.length < 9223372036854775808) :
    Calls Try.prog 27 #[.agg (encMe m).toArray, .agg (encH x).toArray] w fun e w' => e = .returned (.bool (mayH m x)) ∧ Below w.heap.size w w' := by
  have HPO : Hid (∀ w' b, Below w.heap.size w w' → b = mayH m x → (fun e w' => e = Ending.returned (.bool (mayH m x)) ∧ Below w.heap.size w w') (.returned (.bool b)) w') := fun w' b h hb => by subst hb; exact ⟨rfl, h⟩
  generalize (fun e w' => e = Ending.returned (.bool (mayH m x)) ∧ Below w.heap.size w w') = POST at *
  have HB0 := Lib.hid (below2 w (.cells (encMe m).toArray 25) (.cells (encH x).toArray 43))
  have HM0 : Hid (Blk ((w.alloc (.cells (encMe m).toArray 25)).alloc (.cells (encH x).toArray 43)) w.heap.size 25 (encMe m).toArray) := (Blk.new' rfl : Blk _ _ _ _).alloc _
  have HX0 : Hid (Blk ((w.alloc (.cells (encMe m).toArray 25)).alloc (.cells (encH x).toArray 43)) (w.heap.size + 1) 43 (encH x).toArray) := Blk.new' (by simp)
  have HMY : Hid (mayH m x = (nodeH m.nodes x.n && nodeH m.nodes x.s && decide (0 ≤ x.r) && decide (x.r < 16) && kindH m x)) := rfl
  have HKD : Hid (kindH m x = if x.k = 1 then decide (x.v = 0) && decide (x.d.length ≤ 8) else if x.k = 2 then decide (x.v = 0) && decide (x.d.length = 0) else if x.k = 3 then decide (-1 ≤ x.v) && decide (x.v < (m.ml.length : Int)) && decide (x.d.length = 0) else false) := rfl
  go_enter Try.func27, Try.ntmps27
  go_upto_region 1 with fail
  change Code.wp _ _ _ _ ((w.alloc (.cells (encMe m).toArray 25)).alloc (.cells (encH x).toArray 43))
  generalize (w.alloc (.cells (encMe m).toArray 25)).alloc (.cells (encH x).toArray 43) = W0 at *
  generalize mayH m x = may at *
  generalize kindH m x = kin at *
  have HN0 := Lib.hid (node_any m.nodes x.n w.heap.size W0 (HM0.out.list0 rfl))
  have HN1 := Lib.hid (node_any m.nodes x.s w.heap.size W0 (HM0.out.list0 rfl))
  have c7 : W0.cell? ⟨w.heap.size, 7, none⟩ = some (.slice m.ma m.ml.length m.mc) := HM0.out.list0 rfl
  have cn : W0.cell? ⟨w.heap.size + 1, 0, none⟩ = some (.int .i64 x.n) := HX0.out.list0 rfl
  have cr : W0.cell? ⟨w.heap.size + 1, 1, none⟩ = some (.int .i64 x.r) := HX0.out.list0 rfl
  have cs : W0.cell? ⟨w.heap.size + 1, 2, none⟩ = some (.int .i64 x.s) := HX0.out.list0 rfl
  have ck : W0.cell? ⟨w.heap.size + 1, 3, none⟩ = some (.int .i64 x.k) := HX0.out.list0 rfl
  have cv : W0.cell? ⟨w.heap.size + 1, 4, none⟩ = some (.int .i64 x.v) := HX0.out.list0 rfl
  have cd : W0.cell? ⟨w.heap.size + 1, 5, none⟩ = some (.slice x.a x.d.length x.c) := HX0.out.list0 rfl
  clear HM0 HX0
  obtain ⟨xn, xr, xs, xk, xv, xa, xc, xd⟩ := x
  simp only at *
  generalize xd.length = dl at *
  generalize m.ml.length = ml at *
  generalize nodeH m.nodes xn = b1 at *
  generalize nodeH m.nodes xs = b2 at *
  go_upto_region 2 with fail
  cases b1
  · have HE : Hid (may = false) := by show _ = _; rw [HMY.out]; rfl
    go_wp2_with fail
    refine HN0.out.mono ?_
    rintro e w1 ⟨rfl, rfl⟩
    go_wp2
    exact HPO.out _ _ HB0.out HE.out.symm
  · cases b2
    · have HE : Hid (may = false) := by show _ = _; rw [HMY.out]; rfl
      go_wp2_with fail
      refine HN0.out.mono ?_
      rintro e w1 ⟨rfl, rfl⟩
      go_wp2_with fail
      refine HN1.out.mono ?_
      rintro e w1 ⟨rfl, rfl⟩
      go_wp2
      exact HPO.out _ _ HB0.out HE.out.symm
    · go_wp2_with fail
      refine HN0.out.mono ?_
      rintro e w1 ⟨rfl, rfl⟩
      go_wp2_with fail
      refine HN1.out.mono ?_
      rintro e w1 ⟨rfl, rfl⟩
      clear HN0 HN1 cn cs
      by_cases h1 : xr < 0
      · have HE : Hid (may = false) := by show _ = _; rw [HMY.out, show decide (0 ≤ xr) = false from decide_eq_false (by omega)]; rfl
        go_wp2
        exact HPO.out _ _ HB0.out HE.out.symm
      · by_cases h2 : 16 ≤ xr
        · have HE : Hid (may = false) := by show _ = _; rw [HMY.out, show decide (xr < 16) = false from decide_eq_false (by omega)]; simp
          go_wp2
          exact HPO.out _ _ HB0.out HE.out.symm
        · have HE : Hid (may = kin) := by show _ = _; rw [HMY.out, decide_eq_true (show 0 ≤ xr by omega), decide_eq_true (show xr < 16 by omega)]; rfl
          clear HMY
          by_cases k1 : xk = 1
          · have HK : Hid (kin = (decide (xv = 0) && decide (dl ≤ 8))) := by show _ = _; rw [HKD.out, if_pos k1]
            have e1 : (xk == 1) = true := by simp [k1]
            clear k1 HKD
            by_cases v0 : xv = 0
            · have e2 : (xv == 0) = true := by simp [v0]
              by_cases d0 : dl ≤ 8
              · have HF : Hid (true = may) := by show _ = _; rw [HE.out, HK.out, decide_eq_true v0, decide_eq_true d0]; rfl
                have d0z : (dl : Int) ≤ 8 := by omega
                clear v0
                go_wp2
                exact HPO.out _ _ HB0.out HF.out
              · have HF : Hid (false = may) := by show _ = _; rw [HE.out, HK.out, decide_eq_true v0, decide_eq_false d0]; rfl
                have d0z : decide ((dl : Int) ≤ 8) = false := decide_eq_false (by omega)
                clear v0
                go_wp2
                exact HPO.out _ _ HB0.out HF.out
            · have e2 : (xv == 0) = false := by simp [v0]
              have HF : Hid (false = may) := by show _ = _; rw [HE.out, HK.out, decide_eq_false v0]; rfl
              clear v0
              go_wp2
              exact HPO.out _ _ HB0.out HF.out
          · have e1 : (xk == 1) = false := by simp [k1]
            by_cases k2 : xk = 2
            · have HK : Hid (kin = (decide (xv = 0) && decide (dl = 0))) := by show _ = _; rw [HKD.out, if_neg k1, if_pos k2]
              have e12 : (xk == 2) = true := by simp [k2]
              clear k1 k2 HKD
              by_cases v0 : xv = 0
              · have e2 : (xv == 0) = true := by simp [v0]
                by_cases d0 : dl = 0
                · have HF : Hid (true = may) := by show _ = _; rw [HE.out, HK.out, decide_eq_true v0, decide_eq_true d0]; rfl
                  have d0z : ((dl : Int) == 0) = true := by simp; omega
                  clear v0 d0
                  go_wp2
                  exact HPO.out _ _ HB0.out HF.out
                · have HF : Hid (false = may) := by show _ = _; rw [HE.out, HK.out, decide_eq_true v0, decide_eq_false d0]; rfl
                  have d0z : ((dl : Int) == 0) = false := by simp; omega
                  clear v0 d0
                  go_wp2
                  exact HPO.out _ _ HB0.out HF.out
              · have e2 : (xv == 0) = false := by simp [v0]
                have HF : Hid (false = may) := by show _ = _; rw [HE.out, HK.out, decide_eq_false v0]; rfl
                clear v0
                go_wp2
                exact HPO.out _ _ HB0.out HF.out
            · have e12 : (xk == 2) = false := by simp [k2]
              by_cases k3 : xk = 3
              · have HK : Hid (kin = (decide (-1 ≤ xv) && decide (xv < (ml : Int)) && decide (dl = 0))) := by show _ = _; rw [HKD.out, if_neg k1, if_neg k2, if_pos k3]
                have e13 : (xk == 3) = true := by simp [k3]
                clear k1 k2 k3 HKD
                by_cases v0 : -1 ≤ xv
                · by_cases v1 : xv < (ml : Int)
                  · by_cases d0 : dl = 0
                    · have HF : Hid (true = may) := by show _ = _; rw [HE.out, HK.out, decide_eq_true v0, decide_eq_true v1, decide_eq_true d0]; rfl
                      have d0z : ((dl : Int) == 0) = true := by simp; omega
                      clear d0
                      go_wp2
                      exact HPO.out _ _ HB0.out HF.out
                    · have HF : Hid (false = may) := by show _ = _; rw [HE.out, HK.out, decide_eq_true v0, decide_eq_true v1, decide_eq_false d0]; rfl
                      have d0z : ((dl : Int) == 0) = false := by simp; omega
                      clear d0
                      go_wp2
                      exact HPO.out _ _ HB0.out HF.out
                  · have HF : Hid (false = may) := by show _ = _; rw [HE.out, HK.out, decide_eq_true v0, decide_eq_false v1]; rfl
                    go_wp2
                    exact HPO.out _ _ HB0.out HF.out
                · have HF : Hid (false = may) := by show _ = _; rw [HE.out, HK.out, decide_eq_false v0]; rfl
                  go_wp2
                  exact HPO.out _ _ HB0.out HF.out
              · have HF : Hid (false = may) := by show _ = _; rw [HE.out, HKD.out, if_neg k1, if_neg k2, if_neg k3]
                have e13 : (xk == 3) = false := by simp [k3]
                clear k1 k2 k3 HKD
                go_wp2
                exact HPO.out _ _ HB0.out HF.out
end Go.Proofs.Ytkinhhkodaacjaa
