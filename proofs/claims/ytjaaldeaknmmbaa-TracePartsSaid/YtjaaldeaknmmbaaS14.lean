/- TraceParts: the plain law, the walk. -/
import Derived.Test.YtjaaldeaknmmbaaS13
namespace Go.Proofs.Ytjaaldeaknmmbaa
open Go.RowKit Go.Shelf

def inR (l : List Sn) (rs : List Int) : Nat := l.countP (fun x => rs.contains x.r)
theorem inR_cons {l : List Sn} {rs : List Int} {r : Int} (h : rs.contains r = false) : inR l (r :: rs) = inR l rs + (ofR l r l.length).length := by
  have h1 : (ofR l r l.length).length = l.countP (fun x => x.r == r) := by
    unfold ofR
    rw [List.take_length, List.countP_eq_length_filter]
  rw [h1]
  clear h1
  unfold inR
  induction l with
  | nil => rfl
  | cons x l ih =>
    simp only [List.countP_cons]
    rw [ih]
    have hx : (r :: rs).contains x.r = (rs.contains x.r || x.r == r) := by
      rw [List.contains_cons, Bool.or_comm]
    rw [hx]
    by_cases e : x.r = r
    · subst e
      rw [h]
      simp
      omega
    · have : (x.r == r) = false := by simpa using e
      rw [this]
      simp
      omega
theorem inR_all {l : List Sn} {rs : List Int} (h : SeenR l rs l.length) : inR l rs = l.length := by
  unfold inR
  rw [List.countP_eq_length]
  intro x hx
  rw [h x.r, List.take_length, List.any_eq_true]
  exact ⟨x, hx, by simp⟩
theorem inR_le (l : List Sn) (rs : List Int) : inR l rs ≤ l.length := List.countP_le_length

set_option maxRecDepth 100000 in
set_option maxHeartbeats 1600000 in
theorem parts_walk (l : List SnM) (lv : Value) (w : World) (h : GoodL w lv l) :
    Calls Try.prog 4 #[lv] w (LessPost w) := by
  have HPO : Hid (∀ e w', e = .returned (.bool true) ∧ Below w.heap.size w w' → LessPost w e w') := fun _ _ h => h
  have HBG : Hid (∀ W, Calls Try.prog 8 #[] W fun e w' => e = .returned (.bool true) ∧ Below W.heap.size W w') := fun W => begun_any W
  have HFW : Hid (∀ W, Below w.heap.size w W → Calls Try.prog 9 #[lv] W (FewPost l W)) := fun W hW => few_any l lv W (h.1.below hW) (fun x hx => (h.2.1 x hx).below hW)
  have HRD : Hid ((l.map (·.1)).length ≤ 300 → ∀ r W, Below w.heap.size w W → Calls Try.prog 14 #[lv, .int .i64 r] W fun e w' => e = .returned (.func (.func 31) #[] #[.pointer (some ⟨W.heap.size, 0, none⟩), .pointer (some ⟨W.heap.size + 1, 0, none⟩)]) ∧
      ∃ v', Blk w' W.heap.size 22 #[v'] ∧ Blk w' (W.heap.size + 1) 3 #[.int .i64 r] ∧ w'.ownsRow (W.heap.size + 2) 41 23 v' (l.map (·.1)).length ((l.map (·.1)).flatMap encS) ∧ Below W.heap.size W w') := fun hl r W hW => round_any _ lv r W (h.1.below hW) hl
  have HS := Lib.hid h.1
  have HI : Hid (∀ x ∈ l.map (·.1), I64 x.r) := fun x hx => by obtain ⟨y, hy, rfl⟩ := List.mem_map.1 hx; exact h.2.2 y hy
  have HLL : Hid (l.length = (l.map (·.1)).length) := by show _ = _; simp
  obtain ⟨a, c, rfl, q1, q2, q3⟩ := h.1.shape
  clear h
  generalize l.map (·.1) = L at *
  have HLEN : Hid (∀ k, k < L.length → ∃ x, L[k]? = some x) := fun k hk => ⟨_, List.getElem?_eq_getElem hk⟩
  generalize hnn : L.length = n at *
  have HN := Lib.hid hnn
  clear hnn
  have hmm := @run_makeMap Try.prog
  go_enter Try.func4, Try.ntmps4
  go_wp2_with fail
  refine (HBG.out _).mono ?_
  rintro e w1 ⟨rfl, hb⟩
  have HB1 := Lib.hid hb
  clear hb
  go_wp2_with fail
  refine (HFW.out _ HB1.out).mono ?_
  rintro e w2 ⟨⟨b, rfl, hbs⟩, hb⟩
  have HB2 : Hid (Below w.heap.size w w2) := HB1.out.trans (hb.mono HB1.out.size)
  have HBS : Hid (b = true → l.length ≤ 260) := fun hb => (hbs hb).1
  clear hb hbs
  rw [HLL.out] at HBS
  clear HFW HLL
  cases b with
  | false =>
    go_wp2_with (go_at_call 8; refine (HBG.out _).mono ?_; rintro e w3 ⟨rfl, hb⟩; have HB3 : Hid (Below w.heap.size w w3) := HB2.out.trans (hb.mono HB2.out.size); clear hb)
    go_ret
    exact HPO.out _ _ ⟨rfl, HB3.out⟩
  | true =>
    have hn260 : n ≤ 260 := HBS.out rfl
    clear HBS
    have HS0 : Hid (Seen Try.prog 3 4 (w2.alloc (.map #[] 0)) w2.heap.size 0 []) := Seen.made w2
    have HB3 : Hid (Below w.heap.size w (w2.alloc (.map #[] 0))) := HB2.out.trans ((below1 w2 _).mono HB2.out.size)
    have HB2S := Lib.hid HB2.out.size
    go_wp2
    clear hmm
    generalize w2.alloc (.map #[] 0) = w3 at *
    generalize w2.heap.size = mb at *
    go_loopw [3, 21] (fun nv i wr => ∃ (k m : Nat) (rs : List Int), k ≤ n ∧ i = .int .i64 k ∧ nv = .int .i64 m ∧ m ≤ 260 ∧ Hid (m = inR L rs) ∧ Hid (Seen Try.prog 3 4 wr mb k rs) ∧ Hid (SeenR L rs k) ∧ Hid (Below w.heap.size w wr)) (fun _ i _ => n - (intOf i).toNat)
    case atStart => exact ⟨0, 0, [], Nat.zero_le _, rfl, rfl, by omega, (by show _ = _; simp [inR]), HS0, fun r => rfl, HB3⟩
    case round =>
      clear HS0 HB3 HB2 HB1
      obtain ⟨k, m, rs, hk, rfl, rfl, hm, HMN, HM, HR, HW⟩ := hrel
      rename World => wo
      by_cases hlt : k < n
      · obtain ⟨x, hs⟩ := HLEN.out k hlt
        obtain ⟨b, off, rfl, hbl, hc⟩ := (HS.out.below HW.out).row (by rintro rfl; simp at hs)
        have HC := Lib.hid (sn_at hc hs)
        have HX64 := Lib.hid (HI.out x (List.mem_of_getElem? hs))
        have HSX := Lib.hid hs
        have hbs := HW.out.size
        clear hc hs
        cases hcn : rs.contains x.r with
        | true =>
          have HQ : Hid (rs.contains x.r = true) := hcn
          have HR2 := Lib.hid (HR.out.skip HSX.out hcn)
          clear hcn
          go_wp2_with (first
            | (refine wpList_loadW W41 rfl rfl rfl (encS x) rfl HC.out ?_)
            | (refine wpList_boxW W41 rfl rfl rfl (encS x) rfl rfl (encS_one x) rfl ?_; go_must (intro W1 HX hal hz1; have k0 : W1.cell? ⟨wo.heap.size, 0, none⟩ = some (.int .i64 x.r) := HX.list0 rfl; have zz : wo.heap.size < W1.heap.size := (by omega); have HB1 := Lib.hid hal; have HM1 := Lib.hid (HM.out.keep hal); clear HX hal hz1))
            | (refine wpList_seen Try.underlying3 Try.underlying4 Try.underlying43 hz4 HM1.out rfl rfl rfl rfl HX64.out ?_; go_must (rw [HQ.out])))
          go_roundw
          case rel =>
            obtain ⟨D, e1, e2, e3⟩ := HM1.out
            exact ⟨k + 1, m, rs, by omega, by go_num, rfl, hm, HMN, ⟨D, e1.mono (by omega), e2, e3⟩, HR2, HW.out.trans (HB1.out.mono hbs)⟩
          case measure => simp [intOf]; omega
        | false =>
          have HQ : Hid (rs.contains x.r = false) := hcn
          have HR2 := Lib.hid (HR.out.add HSX.out)
          have HIN := Lib.hid (inR_cons (l := L) hcn)
          have HLE := Lib.hid (inR_le L (x.r :: rs))
          have HOL := Lib.hid (ofR_len L x.r L.length)
          clear hcn
          go_upto_region 10 with (first
            | (refine wpList_loadW W41 rfl rfl rfl (encS x) rfl HC.out ?_)
            | (refine wpList_boxW W41 rfl rfl rfl (encS x) rfl rfl (encS_one x) rfl ?_; go_must (intro W1 HX hal hz1; have k0 : W1.cell? ⟨wo.heap.size, 0, none⟩ = some (.int .i64 x.r) := HX.list0 rfl; have zz : wo.heap.size < W1.heap.size := (by omega); have HB1 := Lib.hid (HW.out.trans (hal.mono hbs)); have HM1 := Lib.hid (HM.out.keep hal); have HXX := Lib.hid HX; clear HX hal hz1))
            | (refine wpList_seen Try.underlying3 Try.underlying4 Try.underlying43 hz4 HM1.out rfl rfl rfl rfl HX64.out ?_; go_must (rw [HQ.out]))
            | (refine wpList_see Try.underlying3 Try.underlying4 Try.underlying43 HM1.out (by omega) rfl rfl rfl rfl HX64.out rfl ?_; go_must (intro W2 hm2 hg2; have HM2 := Lib.hid hm2; have HB2 : Hid (Below w.heap.size w W2) := (HB1.out.grown hg2 HB1.out.size (fun j e => by cases e; exact HB2S.out)); have HX2 := Lib.hid (HXX.out.kept hg2 (fun e => by have := HM.out.lt; simp at e; omega)); clear k0 zz hm2 hg2; have k0 : W2.cell? ⟨wo.heap.size, 0, none⟩ = some (.int .i64 x.r) := HX2.out.list0 rfl; have zz : wo.heap.size < W2.heap.size := HX2.out.lt)))
          have h14 := HRD.out (by omega) x.r W2 HB2.out
          go_wp2_with fail
          refine h14.mono ?_
          rintro e W3 ⟨rfl, v', hD1, hD2, ho, hb3⟩
          have hS1 : Snaps W3 v' L := Rd.of_owns encS_len (by rw [HN.out]; exact ho) (by rw [HN.out]; omega)
          have htold := told_round L x.r 999 v' W3 W2.heap.size (by rw [HN.out]; omega) hD1 hD2 hS1
          have HM3 := Lib.hid (HM2.out.keep hb3)
          have HX3 := Lib.hid (HX2.out.keep hb3)
          have HB3 : Hid (Below w.heap.size w W3) := HB2.out.trans (hb3.mono HB2.out.size)
          clear k0 zz hD1 hD2 ho hb3 hS1 h14
          go_wp2_with fail
          refine htold.mono ?_
          rintro e W4 ⟨⟨ov, rfl, ho⟩, hb4⟩
          rw [List.take_of_length_le (by have := HOL.out; rw [HN.out] at this ⊢; simp; omega)] at ho
          have HM4 := Lib.hid (HM3.out.keep hb4)
          have HX4 := Lib.hid (HX3.out.keep hb4)
          have HB4 : Hid (Below w.heap.size w W4) := HB3.out.trans (hb4.mono HB3.out.size)
          have hX : ∀ y ∈ ofR L x.r L.length, y.r = x.r := fun y hy => by
            unfold ofR at hy
            simpa using (List.mem_filter.1 hy).2
          have hlx : (ofR L x.r L.length).length ≤ 260 := by have := HOL.out; rw [HN.out] at this ⊢; omega
          generalize ofR L x.r L.length = X at *
          have HRX := Lib.hid (Rd.of_owns encS_len ho (by omega))
          obtain ⟨oa, oc, rfl, oq1, oq2, oq3⟩ := owns_shape ho
          have HXL : Hid (∀ j, j < X.length → ∃ y, X[j]? = some y ∧ y.r = x.r) := fun j hj => ⟨_, List.getElem?_eq_getElem hj, hX _ (List.getElem_mem hj)⟩
          have hml : m + X.length ≤ 260 := by
            have h1 := HIN.out
            have h2 := HLE.out
            rw [HN.out] at h2
            rw [← HMN.out] at h1
            omega
          have HMN2 : Hid (m + X.length = inR L (x.r :: rs)) := by show _ = _; rw [HIN.out, HMN.out]
          clear htold ho hb4 oq3 hX
          generalize X.length = xl at *
          go_wp2
          go_loopw [43] (fun i wi => ∃ j : Nat, j ≤ xl ∧ i = .int .i64 j ∧ Hid (Below W4.heap.size W4 wi)) (fun i _ => xl - (intOf i).toNat)
          case atStart => exact ⟨0, Nat.zero_le _, rfl, Below.refl _ _⟩
          case round =>
            obtain ⟨j, hj, rfl, HWI⟩ := hrel
            have hwr := HWI.out.size
            have HX5 := Lib.hid (HX4.out.keep HWI.out)
            have HB5 : Hid (Below w.heap.size w wr) := HB4.out.trans (HWI.out.mono HB4.out.size)
            by_cases hjt : j < xl
            · obtain ⟨y, hy, hyr⟩ := HXL.out j hjt
              obtain ⟨ob, oo, rfl, hbo, hco⟩ := (HRX.out.below HWI.out).row (by rintro rfl; simp at hy)
              have HCY := Lib.hid (sn_at hco hy)
              have p0 : wr.cell? ⟨wo.heap.size, 0, none⟩ = some (.int .i64 x.r) := HX5.out.list0 rfl
              have zp := HX5.out.lt
              have hne : (x.r != x.r) = false := by simp
              have HYR := Lib.hid hyr
              clear hy hco hyr
              go_wp2_with (first
                | (refine wpList_loadW W41 rfl rfl rfl (encS y) rfl HCY.out ?_)
                | (refine wpList_boxW W41 rfl rfl rfl (encS y) rfl rfl (encS_one y) rfl ?_; go_must (intro W6 HX hal hz1; have k1 : W6.cell? ⟨wr.heap.size, 0, none⟩ = some (.int .i64 x.r) := (by rw [← HYR.out]; exact HX.list0 rfl); have p1 := keepCell hal p0; have zz : wr.heap.size < W6.heap.size := (by omega); have HB6 := Lib.hid hal; clear HX hal hz1)))
              go_roundw
              case rel => exact ⟨j + 1, by omega, by go_num, HWI.out.trans (HB6.out.mono hwr)⟩
              case measure => simp [intOf]; omega
            · obtain rfl : xl = j := by omega
              have HM5 := Lib.hid (HM4.out.keep HWI.out)
              go_wp2
              go_roundw
              case rel => exact ⟨k + 1, m + xl, x.r :: rs, by omega, by go_num, by simp, by omega, HMN2, HM5, HR2, HB5⟩
              case measure => simp [intOf]; omega
      · obtain rfl : n = k := by omega
        have HFIN : Hid (m = n) := by
          show _ = _
          rw [HMN.out, inR_all (by rw [HN.out]; exact HR.out), HN.out]
        obtain rfl := HFIN.out
        go_wp2
        go_ret
        exact HPO.out _ _ ⟨rfl, HW.out⟩
end Go.Proofs.Ytjaaldeaknmmbaa
