/- Whether a fault may be. -/
import Derived.Test.YtkinhhkodaacjaaF3
namespace Go.Proofs.Ytkinhhkodaacjaa
open Go.RowKit Go.Shelf
open Md

def inAll (ls : List (Int × Int)) (xs : List Int) : Bool := (ls.zip xs).all fun p => decide (p.1.1 ≤ p.2) && decide (p.2 ≤ p.1.2)
/-- Whether a fault may be, with a list that may be. -/
def mayF (m : Me) (f : Fa) : Bool := limOk f.k && decide (0 ≤ f.r) && decide (f.r < 16) && !(decide (f.k = 10) && decide (f.s = f.n)) && inAll (limP m f.k) [f.n, f.c, f.s, f.a, f.b]
theorem Blk.at2 {W : World} {b off : Nat} {t : TypeId} {cs : List Value} {x y : Value} (h : Blk W b t cs.toArray) (hx : cs[off]? = some x) (hy : cs[off + 1]? = some y) : ∀ j u, ([x, y] : List Value)[j]? = some u → W.cell? ⟨b, off + j, none⟩ = some u := fun j u hu => by
  match j, hu with
  | 0, hu => cases hu; exact h.list0 hx
  | 1, hu => cases hu; exact h.list0 hy
  | j + 2, hu => simp at hu
def MB (w : World) (b5 : Nat) (p0 q0 p1 q1 p2 q2 p3 q3 p4 q4 : Int) (W : World) : Prop := Blk W b5 135 (encP [(p0, q0), (p1, q1), (p2, q2), (p3, q3), (p4, q4)]).toArray ∧ Below w.heap.size w W
theorem MB.keep {w W W' : World} {b5 : Nat} {p0 q0 p1 q1 p2 q2 p3 q3 p4 q4 : Int} (h : MB w b5 p0 q0 p1 q1 p2 q2 p3 q3 p4 q4 W) (hb : Below W.heap.size W W') : MB w b5 p0 q0 p1 q1 p2 q2 p3 q3 p4 q4 W' := ⟨h.1.keep hb, h.2.trans (hb.mono h.2.size)⟩
theorem encP_len {l : List (Int × Int)} (h : l.length = 5) : (encP l).length = 10 := by
  match l, h with
  | [_, _, _, _, _], _ => rfl
theorem encP_one (l : List (Int × Int)) : ∀ u ∈ encP l, u.oneCell' = true := by
  intro u hu
  unfold encP at hu
  obtain ⟨p, -, hp⟩ := List.mem_flatMap.1 hu
  exact int2_one _ _ u hp
set_option maxRecDepth 100000 in
set_option maxHeartbeats 3200000 in
theorem may_any (m : Me) (f : Fa) (w : World) (hd : Bd m) : Calls Try.prog 58 #[mev m, .agg (encF f).toArray] w fun e w' => e = .returned (.bool (mayF m f)) ∧ Below w.heap.size w w' := by
  have HP : Hid (∀ w' b, Below w.heap.size w w' → b = mayF m f → (fun e w' => e = Ending.returned (.bool (mayF m f)) ∧ Below w.heap.size w w') (.returned (.bool b)) w') := fun w' b h hb => by subst hb; exact ⟨rfl, h⟩
  generalize (fun e w' => e = Ending.returned (.bool (mayF m f)) ∧ Below w.heap.size w w') = R at *
  have HD := Lib.hid hd
  have HB0 := Lib.hid (below2 w (.cells (encMe m).toArray 25) (.cells (encF f).toArray 39))
  have HM0 : Hid (Blk ((w.alloc (.cells (encMe m).toArray 25)).alloc (.cells (encF f).toArray 39)) w.heap.size 25 (encMe m).toArray) := (Blk.new' rfl : Blk _ _ _ _).alloc _
  have HF0 : Hid (Blk ((w.alloc (.cells (encMe m).toArray 25)).alloc (.cells (encF f).toArray 39)) (w.heap.size + 1) 39 (encF f).toArray) := Blk.new' (by simp)
  clear hd
  change Calls Try.prog 58 #[.agg (encMe m).toArray, .agg (encF f).toArray] w R
  go_enter Try.func58, Try.ntmps58
  go_upto_region 1 with fail
  change Code.wp _ _ _ _ ((w.alloc (.cells (encMe m).toArray 25)).alloc (.cells (encF f).toArray 39))
  generalize (w.alloc (.cells (encMe m).toArray 25)).alloc (.cells (encF f).toArray 39) = W0 at *
  have c0 : W0.cell? ⟨w.heap.size + 1, 0, none⟩ = some (.int .i64 f.k) := HF0.out.list0 rfl
  go_wp2_with ((with_reducible show wpList _ _ _ (Oper.mk (some 10) _ _ _ _ _ :: _) _ _); refine wpList_loadW W25 rfl rfl rfl (encMe m) rfl HM0.out.list ?_)
  refine (limits_any m f.k W0 HD.out).mono ?_
  rintro e W1 ⟨rfl, hb1⟩
  have B1 := Lib.hid hb1
  have HLN := Lib.hid (limP_len m f.k)
  clear hb1 c0
  go_upto_region 2 with ((with_reducible show wpList _ _ _ (Oper.mk none (Op.store 135 _ _) _ _ _ _ :: _) _ _); refine wpList_boxW W70 rfl rfl rfl (encP (limP m f.k)) rfl (encP_len HLN.out) (encP_one _) rfl ?_; intro W2 hbx hbel hsz; have X5 := Lib.hid hbx; have E5 := Lib.hid hbel; clear hbx hbel hsz)
  have HB2 : Hid (Below w.heap.size w W2) := by
    have hb := HB0.out.trans (B1.out.mono HB0.out.size)
    exact hb.trans (E5.out.mono hb.size)
  have HF2 := Lib.hid ((HF0.out.keep B1.out).keep E5.out)
  generalize W1.heap.size = b5 at *
  clear E5 B1 HB0 HM0 HF0 HD
  have HMY : Hid (mayF m f = (limOk f.k && decide (0 ≤ f.r) && decide (f.r < 16) && !(decide (f.k = 10) && decide (f.s = f.n)) && inAll (limP m f.k) [f.n, f.c, f.s, f.a, f.b])) := rfl
  have cr : W2.cell? ⟨w.heap.size + 1, 3, none⟩ = some (.int .i64 f.r) := HF2.out.list0 rfl
  have ck : W2.cell? ⟨w.heap.size + 1, 0, none⟩ = some (.int .i64 f.k) := HF2.out.list0 rfl
  have cs : W2.cell? ⟨w.heap.size + 1, 4, none⟩ = some (.int .i64 f.s) := HF2.out.list0 rfl
  have cn : W2.cell? ⟨w.heap.size + 1, 1, none⟩ = some (.int .i64 f.n) := HF2.out.list0 rfl
  have cc : W2.cell? ⟨w.heap.size + 1, 2, none⟩ = some (.int .i64 f.c) := HF2.out.list0 rfl
  have ca : W2.cell? ⟨w.heap.size + 1, 5, none⟩ = some (.int .i64 f.a) := HF2.out.list0 rfl
  have cb : W2.cell? ⟨w.heap.size + 1, 6, none⟩ = some (.int .i64 f.b) := HF2.out.list0 rfl
  obtain ⟨k, n, c, r, s, a, b⟩ := f
  simp only at *
  obtain ⟨L, hL⟩ : ∃ L, L = limP m k := ⟨_, rfl⟩
  rw [← hL] at HMY X5 HLN
  generalize mayF m ⟨k, n, c, r, s, a, b⟩ = may at *
  clear hL HF2
  generalize limOk k = ok at *
  obtain ⟨p0, q0, p1, q1, p2, q2, p3, q3, p4, q4, rfl⟩ : ∃ p0 q0 p1 q1 p2 q2 p3 q3 p4 q4, L = [(p0, q0), (p1, q1), (p2, q2), (p3, q3), (p4, q4)] := by
    match L, HLN.out with
    | [(p0, q0), (p1, q1), (p2, q2), (p3, q3), (p4, q4)], _ => exact ⟨_, _, _, _, _, _, _, _, _, _, rfl⟩
  have HB : Hid (MB w b5 p0 q0 p1 q1 p2 q2 p3 q3 p4 q4 W2) := ⟨X5.out, HB2.out⟩
  clear X5 HB2 HLN
  cases ok
  · have HE : Hid (may = false) := by show _ = _; rw [HMY.out]; rfl
    go_wp2
    exact HP.out _ _ HB.out.2 HE.out.symm
  · by_cases h1 : r < 0
    · have HE : Hid (may = false) := by show _ = _; rw [HMY.out, show decide (0 ≤ r) = false from decide_eq_false (by omega)]; rfl
      go_wp2
      exact HP.out _ _ HB.out.2 HE.out.symm
    · have h1' : decide (r < 0) = false := decide_eq_false h1
      by_cases h2 : 16 ≤ r
      · have HE : Hid (may = false) := by show _ = _; rw [HMY.out, show decide (r < 16) = false from decide_eq_false (by omega)]; simp
        go_wp2
        exact HP.out _ _ HB.out.2 HE.out.symm
      · have h2' : decide (16 ≤ r) = false := decide_eq_false h2
        have HR : Hid (decide (0 ≤ r) = true ∧ decide (r < 16) = true) := ⟨decide_eq_true (by omega), decide_eq_true (by omega)⟩
        by_cases h3 : k = 10
        · have e3 : (k == 10) = true := by simp [h3]
          by_cases h4 : s = n
          · have HE : Hid (may = false) := by show _ = _; rw [HMY.out]; simp [h3, h4]
            have e4 : (s == n) = true := by simp [h4]
            clear h3 h4
            go_wp2
            exact HP.out _ _ HB.out.2 HE.out.symm
          · have HF : Hid (may = inAll [(p0, q0), (p1, q1), (p2, q2), (p3, q3), (p4, q4)] [n, c, s, a, b]) := by show _ = _; rw [HMY.out, HR.out.1, HR.out.2, show decide (s = n) = false from decide_eq_false h4]; simp
            have e4 : (s == n) = false := by simp [h4]
            clear h3 h4
            go_wp2_with fail
            go_loopw [51] (fun i wr => ∃ j : Nat, j ≤ 5 ∧ i = .int .i64 j ∧ Hid (MB w b5 p0 q0 p1 q1 p2 q2 p3 q3 p4 q4 wr) ∧ Hid (inAll ([(p0, q0), (p1, q1), (p2, q2), (p3, q3), (p4, q4)].take j) [n, c, s, a, b] = true)) (fun i _ => 5 - (intOf i).toNat)
            case atStart => exact ⟨0, by omega, rfl, HB, rfl⟩
            case round =>
              obtain ⟨j, hj, rfl, HM, HA⟩ := hrel
              obtain ⟨wo, rfl⟩ : ∃ wo : World, wo = wr := ⟨_, rfl⟩
              by_cases hlt : j < 5
              · have hj0 : j = 0 ∨ j ≠ 0 := by omega
                rcases hj0 with rfl | hj0
                · have HC := Lib.hid (HM.out.1.at2 (off := 0) (x := .int .i64 p0) (y := .int .i64 q0) rfl rfl)
                  have hix : (Instr.index 138 (.agg #[.int .i64 n, .int .i64 c, .int .i64 s, .int .i64 a, .int .i64 b]) (.int .i64 0)).run Try.prog wo = .ok (.int .i64 n) wo := rfl
                  clear hlt hj 
                  go_wp2_with ((with_reducible show wpList _ _ _ (Oper.mk (some 57) _ _ _ _ _ :: _) _ _); refine wpList_loadW W69 rfl rfl rfl [.int .i64 p0, .int .i64 q0] rfl HC.out ?_)
                  refine (within_any p0 q0 n wo).mono ?_
                  rintro e W2 ⟨rfl, hb⟩
                  have HM2 := Lib.hid (HM.out.keep hb)
                  clear hb
                  by_cases hin : (decide (p0 ≤ n) && decide (n ≤ q0)) = true
                  · have HA2 : Hid (inAll ([(p0, q0), (p1, q1), (p2, q2), (p3, q3), (p4, q4)].take (0 + 1)) [n, c, s, a, b] = true) := by
                      have := HA.out
                      show _ = _
                      simp [inAll] at this hin ⊢
                      omega
                    rw [hin]
                    clear hin HC HA HM hix
                    go_wp2
                    go_roundw
                    case rel => exact ⟨0 + 1, by omega, by go_num, HM2, HA2⟩
                    case measure => simp [intOf]
                  · have HA2 : Hid (inAll [(p0, q0), (p1, q1), (p2, q2), (p3, q3), (p4, q4)] [n, c, s, a, b] = false) := by
                      show _ = _
                      rw [Bool.eq_false_iff]
                      intro h
                      simp [inAll] at h hin
                      omega
                    have HE := Lib.hid (HF.out.trans HA2.out)
                    rw [show (decide (p0 ≤ n) && decide (n ≤ q0)) = false from by simpa using hin]
                    clear hin HC HA HM HA2 hix
                    go_wp2
                    exact HP.out _ _ HM2.out.2 HE.out.symm
                · have hj1 : j = 1 ∨ j ≠ 1 := by omega
                  rcases hj1 with rfl | hj1
                  · have HC := Lib.hid (HM.out.1.at2 (off := 2) (x := .int .i64 p1) (y := .int .i64 q1) rfl rfl)
                    have hix : (Instr.index 138 (.agg #[.int .i64 n, .int .i64 c, .int .i64 s, .int .i64 a, .int .i64 b]) (.int .i64 1)).run Try.prog wo = .ok (.int .i64 c) wo := rfl
                    clear hlt hj hj0
                    go_wp2_with ((with_reducible show wpList _ _ _ (Oper.mk (some 57) _ _ _ _ _ :: _) _ _); refine wpList_loadW W69 rfl rfl rfl [.int .i64 p1, .int .i64 q1] rfl HC.out ?_)
                    refine (within_any p1 q1 c wo).mono ?_
                    rintro e W2 ⟨rfl, hb⟩
                    have HM2 := Lib.hid (HM.out.keep hb)
                    clear hb
                    by_cases hin : (decide (p1 ≤ c) && decide (c ≤ q1)) = true
                    · have HA2 : Hid (inAll ([(p0, q0), (p1, q1), (p2, q2), (p3, q3), (p4, q4)].take (1 + 1)) [n, c, s, a, b] = true) := by
                        have := HA.out
                        show _ = _
                        simp [inAll] at this hin ⊢
                        omega
                      rw [hin]
                      clear hin HC HA HM hix
                      go_wp2
                      go_roundw
                      case rel => exact ⟨1 + 1, by omega, by go_num, HM2, HA2⟩
                      case measure => simp [intOf]
                    · have HA2 : Hid (inAll [(p0, q0), (p1, q1), (p2, q2), (p3, q3), (p4, q4)] [n, c, s, a, b] = false) := by
                        show _ = _
                        rw [Bool.eq_false_iff]
                        intro h
                        simp [inAll] at h hin
                        omega
                      have HE := Lib.hid (HF.out.trans HA2.out)
                      rw [show (decide (p1 ≤ c) && decide (c ≤ q1)) = false from by simpa using hin]
                      clear hin HC HA HM HA2 hix
                      go_wp2
                      exact HP.out _ _ HM2.out.2 HE.out.symm
                  · have hj2 : j = 2 ∨ j ≠ 2 := by omega
                    rcases hj2 with rfl | hj2
                    · have HC := Lib.hid (HM.out.1.at2 (off := 4) (x := .int .i64 p2) (y := .int .i64 q2) rfl rfl)
                      have hix : (Instr.index 138 (.agg #[.int .i64 n, .int .i64 c, .int .i64 s, .int .i64 a, .int .i64 b]) (.int .i64 2)).run Try.prog wo = .ok (.int .i64 s) wo := rfl
                      clear hlt hj hj0 hj1
                      go_wp2_with ((with_reducible show wpList _ _ _ (Oper.mk (some 57) _ _ _ _ _ :: _) _ _); refine wpList_loadW W69 rfl rfl rfl [.int .i64 p2, .int .i64 q2] rfl HC.out ?_)
                      refine (within_any p2 q2 s wo).mono ?_
                      rintro e W2 ⟨rfl, hb⟩
                      have HM2 := Lib.hid (HM.out.keep hb)
                      clear hb
                      by_cases hin : (decide (p2 ≤ s) && decide (s ≤ q2)) = true
                      · have HA2 : Hid (inAll ([(p0, q0), (p1, q1), (p2, q2), (p3, q3), (p4, q4)].take (2 + 1)) [n, c, s, a, b] = true) := by
                          have := HA.out
                          show _ = _
                          simp [inAll] at this hin ⊢
                          omega
                        rw [hin]
                        clear hin HC HA HM hix
                        go_wp2
                        go_roundw
                        case rel => exact ⟨2 + 1, by omega, by go_num, HM2, HA2⟩
                        case measure => simp [intOf]
                      · have HA2 : Hid (inAll [(p0, q0), (p1, q1), (p2, q2), (p3, q3), (p4, q4)] [n, c, s, a, b] = false) := by
                          show _ = _
                          rw [Bool.eq_false_iff]
                          intro h
                          simp [inAll] at h hin
                          omega
                        have HE := Lib.hid (HF.out.trans HA2.out)
                        rw [show (decide (p2 ≤ s) && decide (s ≤ q2)) = false from by simpa using hin]
                        clear hin HC HA HM HA2 hix
                        go_wp2
                        exact HP.out _ _ HM2.out.2 HE.out.symm
                    · have hj3 : j = 3 ∨ j ≠ 3 := by omega
                      rcases hj3 with rfl | hj3
                      · have HC := Lib.hid (HM.out.1.at2 (off := 6) (x := .int .i64 p3) (y := .int .i64 q3) rfl rfl)
                        have hix : (Instr.index 138 (.agg #[.int .i64 n, .int .i64 c, .int .i64 s, .int .i64 a, .int .i64 b]) (.int .i64 3)).run Try.prog wo = .ok (.int .i64 a) wo := rfl
                        clear hlt hj hj0 hj1 hj2
                        go_wp2_with ((with_reducible show wpList _ _ _ (Oper.mk (some 57) _ _ _ _ _ :: _) _ _); refine wpList_loadW W69 rfl rfl rfl [.int .i64 p3, .int .i64 q3] rfl HC.out ?_)
                        refine (within_any p3 q3 a wo).mono ?_
                        rintro e W2 ⟨rfl, hb⟩
                        have HM2 := Lib.hid (HM.out.keep hb)
                        clear hb
                        by_cases hin : (decide (p3 ≤ a) && decide (a ≤ q3)) = true
                        · have HA2 : Hid (inAll ([(p0, q0), (p1, q1), (p2, q2), (p3, q3), (p4, q4)].take (3 + 1)) [n, c, s, a, b] = true) := by
                            have := HA.out
                            show _ = _
                            simp [inAll] at this hin ⊢
                            omega
                          rw [hin]
                          clear hin HC HA HM hix
                          go_wp2
                          go_roundw
                          case rel => exact ⟨3 + 1, by omega, by go_num, HM2, HA2⟩
                          case measure => simp [intOf]
                        · have HA2 : Hid (inAll [(p0, q0), (p1, q1), (p2, q2), (p3, q3), (p4, q4)] [n, c, s, a, b] = false) := by
                            show _ = _
                            rw [Bool.eq_false_iff]
                            intro h
                            simp [inAll] at h hin
                            omega
                          have HE := Lib.hid (HF.out.trans HA2.out)
                          rw [show (decide (p3 ≤ a) && decide (a ≤ q3)) = false from by simpa using hin]
                          clear hin HC HA HM HA2 hix
                          go_wp2
                          exact HP.out _ _ HM2.out.2 HE.out.symm
                      · have hj4 : j = 4 ∨ j ≠ 4 := by omega
                        rcases hj4 with rfl | hj4
                        · have HC := Lib.hid (HM.out.1.at2 (off := 8) (x := .int .i64 p4) (y := .int .i64 q4) rfl rfl)
                          have hix : (Instr.index 138 (.agg #[.int .i64 n, .int .i64 c, .int .i64 s, .int .i64 a, .int .i64 b]) (.int .i64 4)).run Try.prog wo = .ok (.int .i64 b) wo := rfl
                          clear hlt hj hj0 hj1 hj2 hj3
                          go_wp2_with ((with_reducible show wpList _ _ _ (Oper.mk (some 57) _ _ _ _ _ :: _) _ _); refine wpList_loadW W69 rfl rfl rfl [.int .i64 p4, .int .i64 q4] rfl HC.out ?_)
                          refine (within_any p4 q4 b wo).mono ?_
                          rintro e W2 ⟨rfl, hb⟩
                          have HM2 := Lib.hid (HM.out.keep hb)
                          clear hb
                          by_cases hin : (decide (p4 ≤ b) && decide (b ≤ q4)) = true
                          · have HA2 : Hid (inAll ([(p0, q0), (p1, q1), (p2, q2), (p3, q3), (p4, q4)].take (4 + 1)) [n, c, s, a, b] = true) := by
                              have := HA.out
                              show _ = _
                              simp [inAll] at this hin ⊢
                              omega
                            rw [hin]
                            clear hin HC HA HM hix
                            go_wp2
                            go_roundw
                            case rel => exact ⟨4 + 1, by omega, by go_num, HM2, HA2⟩
                            case measure => simp [intOf]
                          · have HA2 : Hid (inAll [(p0, q0), (p1, q1), (p2, q2), (p3, q3), (p4, q4)] [n, c, s, a, b] = false) := by
                              show _ = _
                              rw [Bool.eq_false_iff]
                              intro h
                              simp [inAll] at h hin
                              omega
                            have HE := Lib.hid (HF.out.trans HA2.out)
                            rw [show (decide (p4 ≤ b) && decide (b ≤ q4)) = false from by simpa using hin]
                            clear hin HC HA HM HA2 hix
                            go_wp2
                            exact HP.out _ _ HM2.out.2 HE.out.symm
                        · omega
              · obtain rfl : j = 5 := by omega
                have HE := Lib.hid (HF.out.trans HA.out)
                clear hlt hj
                go_wp2
                exact HP.out _ _ HM.out.2 HE.out.symm
        · have HF : Hid (may = inAll [(p0, q0), (p1, q1), (p2, q2), (p3, q3), (p4, q4)] [n, c, s, a, b]) := by show _ = _; rw [HMY.out, HR.out.1, HR.out.2, show decide (k = 10) = false from decide_eq_false h3]; simp
          have e3 : (k == 10) = false := by simp [h3]
          clear h3
          go_wp2_with fail
          go_loopw [51] (fun i wr => ∃ j : Nat, j ≤ 5 ∧ i = .int .i64 j ∧ Hid (MB w b5 p0 q0 p1 q1 p2 q2 p3 q3 p4 q4 wr) ∧ Hid (inAll ([(p0, q0), (p1, q1), (p2, q2), (p3, q3), (p4, q4)].take j) [n, c, s, a, b] = true)) (fun i _ => 5 - (intOf i).toNat)
          case atStart => exact ⟨0, by omega, rfl, HB, rfl⟩
          case round =>
            obtain ⟨j, hj, rfl, HM, HA⟩ := hrel
            obtain ⟨wo, rfl⟩ : ∃ wo : World, wo = wr := ⟨_, rfl⟩
            by_cases hlt : j < 5
            · have hj0 : j = 0 ∨ j ≠ 0 := by omega
              rcases hj0 with rfl | hj0
              · have HC := Lib.hid (HM.out.1.at2 (off := 0) (x := .int .i64 p0) (y := .int .i64 q0) rfl rfl)
                have hix : (Instr.index 138 (.agg #[.int .i64 n, .int .i64 c, .int .i64 s, .int .i64 a, .int .i64 b]) (.int .i64 0)).run Try.prog wo = .ok (.int .i64 n) wo := rfl
                clear hlt hj 
                go_wp2_with ((with_reducible show wpList _ _ _ (Oper.mk (some 57) _ _ _ _ _ :: _) _ _); refine wpList_loadW W69 rfl rfl rfl [.int .i64 p0, .int .i64 q0] rfl HC.out ?_)
                refine (within_any p0 q0 n wo).mono ?_
                rintro e W2 ⟨rfl, hb⟩
                have HM2 := Lib.hid (HM.out.keep hb)
                clear hb
                by_cases hin : (decide (p0 ≤ n) && decide (n ≤ q0)) = true
                · have HA2 : Hid (inAll ([(p0, q0), (p1, q1), (p2, q2), (p3, q3), (p4, q4)].take (0 + 1)) [n, c, s, a, b] = true) := by
                    have := HA.out
                    show _ = _
                    simp [inAll] at this hin ⊢
                    omega
                  rw [hin]
                  clear hin HC HA HM hix
                  go_wp2
                  go_roundw
                  case rel => exact ⟨0 + 1, by omega, by go_num, HM2, HA2⟩
                  case measure => simp [intOf]
                · have HA2 : Hid (inAll [(p0, q0), (p1, q1), (p2, q2), (p3, q3), (p4, q4)] [n, c, s, a, b] = false) := by
                    show _ = _
                    rw [Bool.eq_false_iff]
                    intro h
                    simp [inAll] at h hin
                    omega
                  have HE := Lib.hid (HF.out.trans HA2.out)
                  rw [show (decide (p0 ≤ n) && decide (n ≤ q0)) = false from by simpa using hin]
                  clear hin HC HA HM HA2 hix
                  go_wp2
                  exact HP.out _ _ HM2.out.2 HE.out.symm
              · have hj1 : j = 1 ∨ j ≠ 1 := by omega
                rcases hj1 with rfl | hj1
                · have HC := Lib.hid (HM.out.1.at2 (off := 2) (x := .int .i64 p1) (y := .int .i64 q1) rfl rfl)
                  have hix : (Instr.index 138 (.agg #[.int .i64 n, .int .i64 c, .int .i64 s, .int .i64 a, .int .i64 b]) (.int .i64 1)).run Try.prog wo = .ok (.int .i64 c) wo := rfl
                  clear hlt hj hj0
                  go_wp2_with ((with_reducible show wpList _ _ _ (Oper.mk (some 57) _ _ _ _ _ :: _) _ _); refine wpList_loadW W69 rfl rfl rfl [.int .i64 p1, .int .i64 q1] rfl HC.out ?_)
                  refine (within_any p1 q1 c wo).mono ?_
                  rintro e W2 ⟨rfl, hb⟩
                  have HM2 := Lib.hid (HM.out.keep hb)
                  clear hb
                  by_cases hin : (decide (p1 ≤ c) && decide (c ≤ q1)) = true
                  · have HA2 : Hid (inAll ([(p0, q0), (p1, q1), (p2, q2), (p3, q3), (p4, q4)].take (1 + 1)) [n, c, s, a, b] = true) := by
                      have := HA.out
                      show _ = _
                      simp [inAll] at this hin ⊢
                      omega
                    rw [hin]
                    clear hin HC HA HM hix
                    go_wp2
                    go_roundw
                    case rel => exact ⟨1 + 1, by omega, by go_num, HM2, HA2⟩
                    case measure => simp [intOf]
                  · have HA2 : Hid (inAll [(p0, q0), (p1, q1), (p2, q2), (p3, q3), (p4, q4)] [n, c, s, a, b] = false) := by
                      show _ = _
                      rw [Bool.eq_false_iff]
                      intro h
                      simp [inAll] at h hin
                      omega
                    have HE := Lib.hid (HF.out.trans HA2.out)
                    rw [show (decide (p1 ≤ c) && decide (c ≤ q1)) = false from by simpa using hin]
                    clear hin HC HA HM HA2 hix
                    go_wp2
                    exact HP.out _ _ HM2.out.2 HE.out.symm
                · have hj2 : j = 2 ∨ j ≠ 2 := by omega
                  rcases hj2 with rfl | hj2
                  · have HC := Lib.hid (HM.out.1.at2 (off := 4) (x := .int .i64 p2) (y := .int .i64 q2) rfl rfl)
                    have hix : (Instr.index 138 (.agg #[.int .i64 n, .int .i64 c, .int .i64 s, .int .i64 a, .int .i64 b]) (.int .i64 2)).run Try.prog wo = .ok (.int .i64 s) wo := rfl
                    clear hlt hj hj0 hj1
                    go_wp2_with ((with_reducible show wpList _ _ _ (Oper.mk (some 57) _ _ _ _ _ :: _) _ _); refine wpList_loadW W69 rfl rfl rfl [.int .i64 p2, .int .i64 q2] rfl HC.out ?_)
                    refine (within_any p2 q2 s wo).mono ?_
                    rintro e W2 ⟨rfl, hb⟩
                    have HM2 := Lib.hid (HM.out.keep hb)
                    clear hb
                    by_cases hin : (decide (p2 ≤ s) && decide (s ≤ q2)) = true
                    · have HA2 : Hid (inAll ([(p0, q0), (p1, q1), (p2, q2), (p3, q3), (p4, q4)].take (2 + 1)) [n, c, s, a, b] = true) := by
                        have := HA.out
                        show _ = _
                        simp [inAll] at this hin ⊢
                        omega
                      rw [hin]
                      clear hin HC HA HM hix
                      go_wp2
                      go_roundw
                      case rel => exact ⟨2 + 1, by omega, by go_num, HM2, HA2⟩
                      case measure => simp [intOf]
                    · have HA2 : Hid (inAll [(p0, q0), (p1, q1), (p2, q2), (p3, q3), (p4, q4)] [n, c, s, a, b] = false) := by
                        show _ = _
                        rw [Bool.eq_false_iff]
                        intro h
                        simp [inAll] at h hin
                        omega
                      have HE := Lib.hid (HF.out.trans HA2.out)
                      rw [show (decide (p2 ≤ s) && decide (s ≤ q2)) = false from by simpa using hin]
                      clear hin HC HA HM HA2 hix
                      go_wp2
                      exact HP.out _ _ HM2.out.2 HE.out.symm
                  · have hj3 : j = 3 ∨ j ≠ 3 := by omega
                    rcases hj3 with rfl | hj3
                    · have HC := Lib.hid (HM.out.1.at2 (off := 6) (x := .int .i64 p3) (y := .int .i64 q3) rfl rfl)
                      have hix : (Instr.index 138 (.agg #[.int .i64 n, .int .i64 c, .int .i64 s, .int .i64 a, .int .i64 b]) (.int .i64 3)).run Try.prog wo = .ok (.int .i64 a) wo := rfl
                      clear hlt hj hj0 hj1 hj2
                      go_wp2_with ((with_reducible show wpList _ _ _ (Oper.mk (some 57) _ _ _ _ _ :: _) _ _); refine wpList_loadW W69 rfl rfl rfl [.int .i64 p3, .int .i64 q3] rfl HC.out ?_)
                      refine (within_any p3 q3 a wo).mono ?_
                      rintro e W2 ⟨rfl, hb⟩
                      have HM2 := Lib.hid (HM.out.keep hb)
                      clear hb
                      by_cases hin : (decide (p3 ≤ a) && decide (a ≤ q3)) = true
                      · have HA2 : Hid (inAll ([(p0, q0), (p1, q1), (p2, q2), (p3, q3), (p4, q4)].take (3 + 1)) [n, c, s, a, b] = true) := by
                          have := HA.out
                          show _ = _
                          simp [inAll] at this hin ⊢
                          omega
                        rw [hin]
                        clear hin HC HA HM hix
                        go_wp2
                        go_roundw
                        case rel => exact ⟨3 + 1, by omega, by go_num, HM2, HA2⟩
                        case measure => simp [intOf]
                      · have HA2 : Hid (inAll [(p0, q0), (p1, q1), (p2, q2), (p3, q3), (p4, q4)] [n, c, s, a, b] = false) := by
                          show _ = _
                          rw [Bool.eq_false_iff]
                          intro h
                          simp [inAll] at h hin
                          omega
                        have HE := Lib.hid (HF.out.trans HA2.out)
                        rw [show (decide (p3 ≤ a) && decide (a ≤ q3)) = false from by simpa using hin]
                        clear hin HC HA HM HA2 hix
                        go_wp2
                        exact HP.out _ _ HM2.out.2 HE.out.symm
                    · have hj4 : j = 4 ∨ j ≠ 4 := by omega
                      rcases hj4 with rfl | hj4
                      · have HC := Lib.hid (HM.out.1.at2 (off := 8) (x := .int .i64 p4) (y := .int .i64 q4) rfl rfl)
                        have hix : (Instr.index 138 (.agg #[.int .i64 n, .int .i64 c, .int .i64 s, .int .i64 a, .int .i64 b]) (.int .i64 4)).run Try.prog wo = .ok (.int .i64 b) wo := rfl
                        clear hlt hj hj0 hj1 hj2 hj3
                        go_wp2_with ((with_reducible show wpList _ _ _ (Oper.mk (some 57) _ _ _ _ _ :: _) _ _); refine wpList_loadW W69 rfl rfl rfl [.int .i64 p4, .int .i64 q4] rfl HC.out ?_)
                        refine (within_any p4 q4 b wo).mono ?_
                        rintro e W2 ⟨rfl, hb⟩
                        have HM2 := Lib.hid (HM.out.keep hb)
                        clear hb
                        by_cases hin : (decide (p4 ≤ b) && decide (b ≤ q4)) = true
                        · have HA2 : Hid (inAll ([(p0, q0), (p1, q1), (p2, q2), (p3, q3), (p4, q4)].take (4 + 1)) [n, c, s, a, b] = true) := by
                            have := HA.out
                            show _ = _
                            simp [inAll] at this hin ⊢
                            omega
                          rw [hin]
                          clear hin HC HA HM hix
                          go_wp2
                          go_roundw
                          case rel => exact ⟨4 + 1, by omega, by go_num, HM2, HA2⟩
                          case measure => simp [intOf]
                        · have HA2 : Hid (inAll [(p0, q0), (p1, q1), (p2, q2), (p3, q3), (p4, q4)] [n, c, s, a, b] = false) := by
                            show _ = _
                            rw [Bool.eq_false_iff]
                            intro h
                            simp [inAll] at h hin
                            omega
                          have HE := Lib.hid (HF.out.trans HA2.out)
                          rw [show (decide (p4 ≤ b) && decide (b ≤ q4)) = false from by simpa using hin]
                          clear hin HC HA HM HA2 hix
                          go_wp2
                          exact HP.out _ _ HM2.out.2 HE.out.symm
                      · omega
            · obtain rfl : j = 5 := by omega
              have HE := Lib.hid (HF.out.trans HA.out)
              clear hlt hj
              go_wp2
              exact HP.out _ _ HM.out.2 HE.out.symm
end Go.Proofs.Ytkinhhkodaacjaa
