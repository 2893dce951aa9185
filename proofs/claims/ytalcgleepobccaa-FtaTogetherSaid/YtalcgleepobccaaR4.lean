/- The contract of the document's Round. -/
import Derived.Test.YtalcgleepobccaaR3
namespace Go.Proofs.Ytalcgleepobccaa
open Go.RowKit Go.Shelf

def pref (F : Nat → Int) (j : Nat) : List Int := (List.range j).map F
theorem pref_len (F : Nat → Int) (j : Nat) : (pref F j).length = j := by simp [pref]
theorem pref_succ (F : Nat → Int) (j : Nat) : (pref F (j + 1)).map (Value.int .i64) = (pref F j).map (.int .i64) ++ [.int .i64 (F j)] := by simp [pref, List.range_succ]

theorem allocD {w : World} {o : Obj} {b off : Nat} (h : b < w.heap.size) : (w.alloc o).drew.cell? ⟨b, off, none⟩ = w.cell? ⟨b, off, none⟩ :=
  World.cell?_alloc_lt w o ⟨b, off, none⟩ h

set_option maxRecDepth 100000 in
set_option maxHeartbeats 1600000 in
/-- The document's Round. -/
theorem rround_any (cl : List Int) (v : Value) (M : List Rw) (u : Value) (w : World) (h : Ints w v cl) (hM : Mat w u M) :
    Calls Try.prog 20 #[v, u] w (RoundPost cl M w) := by
  have hcon := off_any cl v w h
  have hmk : ∀ W : World, Below w.heap.size w W → Ints W v cl := fun W hW => h.below hW
  have hMk : ∀ W : World, Below w.heap.size w W → Mat W u M := fun W hW => hM.below hW
  obtain ⟨a, cap, rfl, q1, q2, q3⟩ := h.shape
  obtain ⟨a', cap', rfl, p1, p2, p3⟩ := hM.1.shape
  have hE1 : Hid (argBad cl M = true → rndE cl M = 2 ∧ rndL cl M = []) := rndE_arg
  by_cases n4 : cl.length < 4
  · have hE := Lib.hid (rndE_arg (cl := cl) (M := M) (by simp [argBad, n4]))
    have n4' : (cl.length : Int) < 4 := by omega
    clear hcon hmk hMk n4 h hM
    generalize cl.length = n at *
    go_enter Try.func20, Try.ntmps20
    go_wp2
    go_ret2
    exact round_err hE.out.1 hE.out.2 (Below.refl _ _)
  by_cases n8 : 8 < cl.length
  · have hE := Lib.hid (rndE_arg (cl := cl) (M := M) (by simp [argBad, n8]))
    have n8' : (8 : Int) < (cl.length : Int) := by omega
    have n4' : (4 : Int) ≤ (cl.length : Int) := by omega
    clear hcon hmk hMk n8 n4 h hM
    generalize cl.length = n at *
    go_enter Try.func20, Try.ntmps20
    go_wp2
    go_ret2
    exact round_err hE.out.1 hE.out.2 (Below.refl _ _)
  have n8' : (cl.length : Int) ≤ 8 := by omega
  have n4' : (4 : Int) ≤ (cl.length : Int) := by omega
  by_cases hML : (M.length : Int) = cl.length
  rotate_left
  · have hE := Lib.hid (rndE_arg (cl := cl) (M := M) (by simp [argBad, hML]))
    have hne : ((M.length : Int) != cl.length) = true := by simpa using hML
    clear hcon hmk hMk n8 n4 hML h hM
    generalize cl.length = n at *
    generalize M.length = m at *
    go_enter Try.func20, Try.ntmps20
    go_wp2
    go_ret2
    exact round_err hE.out.1 hE.out.2 (Below.refl _ _)
  have hMLn : M.length = cl.length := by omega
  obtain ⟨cb, coff, rfl, hcb, hcc⟩ := h.row (by rintro rfl; simp at n4)
  obtain ⟨mb, moff, rfl, hmb, hmc⟩ := hM.1.row (by rintro rfl; simp at hML; omega)
  have HCC := Lib.hid hcc
  have HMC := Lib.hid hmc
  have HML := Lib.hid hMLn
  have HI := Lib.hid hM.2
  simp only [hMLn] at hMk p1 p3 ⊢
  clear hcc hmc hML hMLn h hM n4 n8
  obtain ⟨n, hn⟩ : ∃ n, cl.length = n := ⟨_, rfl⟩
  have HN := Lib.hid hn
  rw [hn] at hcon hmk q1 q3 n4' n8' ⊢
  simp only [hn] at hMk p1 p3
  have HA : Hid (M.any (lenNe n) = argBad cl M) := by
    show _ = _
    unfold argBad
    rw [hn, show decide (n < 4) = false by simp; omega, show decide (8 < n) = false by simp; omega, HML.out, hn]
    simp
  clear hn
  go_enter Try.func20, Try.ntmps20
  go_wp2
  go_loop [7] (fun i => ∃ k : Nat, k ≤ n ∧ i = .int .i64 k ∧ Hid ((M.take k).any (lenNe n) = false)) (fun i => n - (intOf i).toNat)
  case atStart => exact ⟨0, Nat.zero_le _, rfl, rfl⟩
  case round =>
    obtain ⟨k, hk, rfl, hany⟩ := hrel
    by_cases hlt : k < n
    · obtain ⟨r, hr⟩ : ∃ r, M[k]? = some r := ⟨_, List.getElem?_eq_getElem (by rw [HML.out, HN.out]; exact hlt)⟩
      have hrm := List.mem_of_getElem? hr
      have hck : w.cell? ⟨mb, moff + k, none⟩ = some (rwv r) := HMC.out.one (f := rwv) hr
      have hrl := (HI.out r hrm).len
      have HS := Lib.hid (any_take_snoc (lenNe n) hr)
      have HX : Hid (lenNe n r = true → argBad cl M = true) := fun h => by rw [← HA.out]; exact List.any_eq_true.2 ⟨r, hrm, h⟩
      have HB : Hid (lenNe n r = !decide ((r.l.length : Int) = n)) := rfl
      clear hr hrm hcon
      unfold rwv at hck
      generalize r.l.length = m at *
      by_cases hm : m = n
      · subst hm
        go_wp2
        go_round
        case rel => exact ⟨k + 1, by omega, by go_num, show _ = _ by rw [HS.out, hany.out, HB.out]; simp⟩
        case measure => simp [intOf]; omega
      · have hne : ((m : Int) != n) = true := by simp; omega
        have HT : Hid (argBad cl M = true) := HX.out (by rw [HB.out]; simp; omega)
        clear hm
        go_wp2
        go_ret2
        exact round_err (hE1.out HT.out).1 (hE1.out HT.out).2 (Below.refl _ _)
    · have HAF : Hid (argBad cl M = false) := by
        have := hany.out
        rw [List.take_of_length_le (by rw [HML.out, HN.out]; omega)] at this
        show _ = _
        rw [← HA.out, this]
      clear HA hE1 hany
      go_wp2_with fail
      refine hcon.mono ?_
      rintro e w' ⟨rfl, rfl⟩
      clear hcon
      go_wp2
      go_loop [8, 9] (fun b i => ∃ k : Nat, k ≤ n ∧ i = .int .i64 k ∧ b = .bool (cl.any (Fta.far B38) || (M.take k).any farRow)) (fun _ i => n - (intOf i).toNat)
      case atStart => exact ⟨0, Nat.zero_le _, rfl, by simp⟩
      case round =>
        obtain ⟨k, hk, rfl, rfl⟩ := hrel
        by_cases hlt : k < n
        · obtain ⟨r, hr⟩ : ∃ r, M[k]? = some r := ⟨_, List.getElem?_eq_getElem (by rw [HML.out, HN.out]; exact hlt)⟩
          have hrm := List.mem_of_getElem? hr
          have hck : w.cell? ⟨mb, moff + k, none⟩ = some (rwv r) := HMC.out.one (f := rwv) hr
          have hof := off_any r.l (rwv r) w (HI.out r hrm)
          have HS : Hid ((cl.any (Fta.far B38) || (M.take (k + 1)).any farRow) = ((cl.any (Fta.far B38) || (M.take k).any farRow) || r.l.any (Fta.far B38))) := by
            show _ = _
            rw [any_take_snoc farRow hr, Bool.or_assoc]
            rfl
          clear hr hrm
          unfold rwv at hck hof
          generalize (cl.any (Fta.far B38) || (M.take k).any farRow) = p at *
          generalize r.l.any (Fta.far B38) = q at *
          cases p
          · go_wp2_with (go_at_call 33; refine hof.mono ?_; rintro e w' ⟨rfl, rfl⟩)
            go_round
            case rel => exact ⟨k + 1, by omega, by go_num, by rw [HS.out]; simp⟩
            case measure => simp [intOf]; omega
          · clear hof
            go_wp2
            go_round
            case rel => exact ⟨k + 1, by omega, by go_num, by rw [HS.out]; simp⟩
            case measure => simp [intOf]; omega
        · have hoff : (cl.any (Fta.far B38) || (M.take k).any farRow) = offBad cl M := by
            rw [List.take_of_length_le (by rw [HML.out, HN.out]; omega)]; rfl
          rw [hoff]
          clear hoff
          cases hob : offBad cl M
          rotate_left
          · have hE := Lib.hid (rndE_off HAF.out hob)
            clear hob
            go_wp2
            go_ret2
            exact round_err hE.out.1 hE.out.2 (Below.refl _ _)
          · have hE : Hid (rndE cl M = 0 ∧ rndL cl M = rnd cl M) := by
              show _ ∧ _
              unfold rndE rndL
              rw [HAF.out, hob]
              exact ⟨rfl, rfl⟩
            simp only [offBad, Bool.or_eq_false_iff] at hob
            obtain ⟨hcf, hMf⟩ := hob
            have HCF := Lib.hid hcf
            have HF : Hid (∀ r ∈ M, r.l.any (Fta.far B38) = false) := fun r hr => by
              have := (List.any_eq_false.1 hMf) r hr
              simpa [farRow] using this
            have HR : Hid (∀ r ∈ M, r.l.length = cl.length) := fun r hr => by
              have h1 := HAF.out
              simp only [argBad, Bool.or_eq_false_iff] at h1
              have := (List.any_eq_false.1 h1.2) r hr
              simp [lenNe] at this
              omega
            clear hcf hMf
            go_wp2
            go_loopw [10, 11] (fun z i wr => ∃ j : Nat, j ≤ n ∧ i = .int .i64 j ∧ wr.ownsRow w.heap.size 2 1 z j ((pref (rndAt cl M) j).map (.int .i64)) ∧ Below w.heap.size w wr) (fun _ i _ => n - (intOf i).toNat)
            case atStart => exact ⟨0, Nat.zero_le _, rfl, World.ownsRow_nil _ _ _ _, Below.refl _ _⟩
            case round =>
              obtain ⟨j, hj, rfl, hrow, hbr⟩ := hrel
              by_cases hlt : j < n
              · obtain ⟨r, hr⟩ : ∃ r, M[j]? = some r := ⟨_, List.getElem?_eq_getElem (by rw [HML.out, HN.out]; exact hlt)⟩
                have hrm := List.mem_of_getElem? hr
                have hrI := (hMk wr hbr).2 r hrm
                have hrlen : r.l.length = n := by rw [HR.out r hrm, HN.out]
                have hmcell : wr.cell? ⟨mb, moff + j, none⟩ = some (rwv r) := by rw [hbr.cell hmb]; exact HMC.out.one (f := rwv) hr
                have HRf := Lib.hid (HF.out r hrm)
                have HRA : Hid (rndAt cl M j = cl.getD j 0 + (Fta.mid (rowOf cl j r.l)).1) := by
                  show _ = _
                  unfold rndAt
                  simp [List.getD_eq_getElem?_getD, hr]
                have HOK := Lib.hid (rowOf_ok (i := j) (by rw [HN.out]; exact hlt) (by rw [hrlen, HN.out]) HCF.out (HF.out r hrm))
                have HRN := Lib.hid hrlen
                obtain ⟨rb, roff, rfl2, hrb, hrc⟩ : ∃ rb roff, r.a = some ⟨rb, roff, none⟩ ∧ rb < wr.heap.size ∧ ∀ k, k < r.l.length → wr.cell? ⟨rb, roff + k, none⟩ = some (.int .i64 (r.l.getD k 0)) :=
                  Ints.row hrI (by intro e; rw [e] at hrlen; simp at hrlen; omega)
                have hrcap := hrI.shape
                obtain ⟨ra, rcap, rl⟩ := r
                simp only at rfl2
                subst rfl2
                unfold rwv at hmcell hrcap
                simp only at hmcell hrcap hrc hrlen HRA HRf HOK HRN
                obtain ⟨_, _, hrcE, hrc1, hrc2, _⟩ := hrcap
                simp only [Value.slice.injEq] at hrcE
                obtain ⟨rfl, _, rfl⟩ := hrcE
                rw [hrlen] at hmcell hrc1
                have HRC := Lib.hid hrc
                have hcj : wr.cell? ⟨cb, coff + j, none⟩ = some (.int .i64 (cl.getD j 0)) := by rw [hbr.cell hcb]; exact HCC.out j (by rw [HN.out]; exact hlt)
                have hcjb := notFar HCF.out (k := j) (by rw [HN.out]; exact hlt)
                clear hrc hrI hr hrm hrlen
                obtain ⟨y, hy⟩ : ∃ y, y = cl.getD j 0 := ⟨_, rfl⟩
                rw [← hy] at hcj hcjb HRA
                have HY := Lib.hid hy
                clear hy
                obtain ⟨wo, rfl⟩ : ∃ wo, wo = wr := ⟨_, rfl⟩
                obtain ⟨G, hG⟩ : ∃ G, G = fun k => cl.getD k 0 - y + rl.getD k 0 := ⟨_, rfl⟩
                have HG := Lib.hid hG
                clear hG
                have hji : (j : Int) < n := by omega
                go_wp2
                go_loopw [12, 13] (fun z i wr => ∃ k : Nat, k ≤ n ∧ i = .int .i64 k ∧ (∃ zv, zv = z ∧ wr.ownsRow wo.heap.size 2 1 zv k ((pref G k).map (.int .i64))) ∧ Below wo.heap.size wo wr) (fun _ i _ => n - (intOf i).toNat)
                case atStart => exact ⟨0, Nat.zero_le _, rfl, ⟨_, rfl, World.ownsRow_nil _ _ _ _⟩, Below.refl _ _⟩
                case round =>
                  obtain ⟨k, hk, rfl, ⟨zv, rfl, hrow2⟩, hbi⟩ := hrel
                  have hcj2 := keepC hbi hcj (World.block_lt_of_cell? _ _ hcj)
                  have hmc2 := keepC hbi hmcell (World.block_lt_of_cell? _ _ hmcell)
                  by_cases hlk : k < n
                  · have hck2 : wr.cell? ⟨cb, coff + k, none⟩ = some (.int .i64 (cl.getD k 0)) := by
                      have h1 : wo.cell? ⟨cb, coff + k, none⟩ = some (.int .i64 (cl.getD k 0)) := by rw [hbr.cell hcb]; exact HCC.out k (by rw [HN.out]; exact hlk)
                      exact keepC hbi h1 (World.block_lt_of_cell? _ _ h1)
                    have hrk2 : wr.cell? ⟨rb, roff + k, none⟩ = some (.int .i64 (rl.getD k 0)) := by
                      have h1 := HRC.out k (by rw [HRN.out]; exact hlk)
                      exact keepC hbi h1 (World.block_lt_of_cell? _ _ h1)
                    have hckb := notFar HCF.out (k := k) (by rw [HN.out]; exact hlk)
                    have hrkb := notFar HRf.out (k := k) (by rw [HRN.out]; exact hlk)
                    have hGk : Hid ((pref G (k + 1)).map (Value.int .i64) = (pref G k).map (.int .i64) ++ [.int .i64 (cl.getD k 0 - y + rl.getD k 0)]) := by show _ = _; rw [pref_succ, HG.out]
                    have hki : (k : Int) < n := by omega
                    clear hrow
                    obtain ⟨x, hx⟩ : ∃ x, x = cl.getD k 0 := ⟨_, rfl⟩
                    obtain ⟨z, hz⟩ : ∃ z, z = rl.getD k 0 := ⟨_, rfl⟩
                    rw [← hx] at hck2 hckb hGk
                    rw [← hz] at hrk2 hrkb hGk
                    clear hx hz
                    obtain ⟨q1', q2'⟩ := hckb
                    obtain ⟨q3', q4'⟩ := hrkb
                    obtain ⟨q5', q6'⟩ := hcjb
                    have hcb2 : cb < wo.heap.size := Nat.lt_of_lt_of_le hcb hbr.size
                    have hmb2 : mb < wo.heap.size := Nat.lt_of_lt_of_le hmb hbr.size
                    have hw1 : IntKind.i64.wrap (x - y) = x - y := IntWalk.i64_in _ (by omega)
                    have hw2 : IntKind.i64.wrap (x - y + z) = x - y + z := IntWalk.i64_in _ (by omega)
                    have hown' := (hrow2.alloc (.cells #[.int .i64 (x - y + z)] 2)).drew
                    have hsrc : Src (wr.alloc (.cells #[.int .i64 (x - y + z)] 2)).drew (.slice (some ⟨wr.heap.size, 0, none⟩) 1 1) 1 [.int .i64 (x - y + z)] 1 := Src.new rfl
                    have hal : Below wo.heap.size wo (wr.alloc (.cells #[.int .i64 (x - y + z)] 2)).drew := (hbi.alloc hbi.size _).drew
                    have hlc := World.block_lt_of_cell? _ _ hck2
                    have hlm := World.block_lt_of_cell? _ _ hmc2
                    have hlr := World.block_lt_of_cell? _ _ hrk2
                    have hEx : Hid (wo.cell? ⟨cb, coff + k, none⟩ = some (.int .i64 x) ∧ wo.cell? ⟨cb, coff + j, none⟩ = some (.int .i64 y) ∧ wo.cell? ⟨mb, moff + j, none⟩ = some (.slice (some ⟨rb, roff, none⟩) n rcap) ∧ wo.cell? ⟨rb, roff + k, none⟩ = some (.int .i64 z)) :=
                      ⟨by rw [← hck2, hbi.cell hcb2], by rw [← hcj2, hbi.cell hcb2], by rw [← hmc2, hbi.cell hmb2], by rw [← hrk2, hbi.cell hrb]⟩
                    go_wp2
                    go_region_held3 (fun W => W.cell? ⟨cb, coff + k, none⟩ = some (.int .i64 x) ∧ W.cell? ⟨cb, coff + j, none⟩ = some (.int .i64 y) ∧ W.cell? ⟨mb, moff + j, none⟩ = some (.slice (some ⟨rb, roff, none⟩) n rcap) ∧ W.cell? ⟨rb, roff + k, none⟩ = some (.int .i64 z)) (first | exact ⟨hck2, hcj2, hmc2, hrk2⟩ | exact ⟨(allocD hlc).trans hck2, (allocD hlc).trans hcj2, (allocD hlm).trans hmc2, (allocD hlr).trans hrk2⟩ | exact ⟨keepC hb5 hEx.out.1 hcb2, keepC hb5 hEx.out.2.1 hcb2, keepC hb5 hEx.out.2.2.1 hmb2, keepC hb5 hEx.out.2.2.2 hrb⟩)
                      ((refine step_app E22 rfl _ _ rfl hown' hsrc rfl rfl (by omega) (Nat.le_trans hbi.size (by simp)) ?_; intro u2 w5 hu2 hg2; have hb5 : Below wo.heap.size wo w5 := below_app hal (Nat.le_refl _) hown' hg2 hal.size))
                    go_wp2
                    go_roundw
                    case rel => exact ⟨k + 1, by omega, by go_num, ⟨_, rfl, by rw [hGk.out]; exact hu2⟩, hb5⟩
                    case measure => simp [intOf]; omega
                  · obtain rfl : k = n := by omega
                    have hGr : pref G k = rowOf cl j rl := by rw [HG.out]; unfold rowOf pref; rw [HN.out, HY.out]
                    rw [hGr] at hrow2
                    have hl : (rowOf cl j rl).length = k := by rw [rowOf_len, HN.out]
                    obtain ⟨hz, hbd⟩ := HOK.out
                    have hI := Ints.of_owns (w := wr) (base := wo.heap.size) (v := zv) (l := rowOf cl j rl) (by rw [hl]; exact hrow2) (by omega) (fun x hx => by have := hbd x hx; unfold I64; omega)
                    have hmid := rmid_any (rowOf cl j rl) _ wr hI
                    rw [hz] at hmid
                    have hmb3 := Fta.mid_bd (rowOf cl j rl)
                    have hrow6 := owK hrow hbi rfl
                    clear hI hrow2 hGr hl hz hbd hrow
                    generalize (Fta.mid (rowOf cl j rl)).1 = m at *
                    obtain ⟨m1, m2⟩ := hmb3
                    obtain ⟨y1, y2⟩ := hcjb
                    go_wp2_with fail
                    refine hmid.mono ?_
                    rintro e w6 ⟨rfl, hb6⟩
                    clear hmid
                    have hrow7 := owK hrow6 hb6 rfl
                    have hcj6 := keepC hb6 hcj2 (World.block_lt_of_cell? _ _ hcj2)
                    have b6 := hbr.trans ((hbi.trans (hb6.mono hbi.size)).mono hbr.size)
                    have HPS := Lib.hid (pref_succ (rndAt cl M) j)
                    clear hrow6
                    go_wp2_with (at_builtin; refine wpList_app1 E22 rfl _ _ rfl hrow7 [.int .i64 (y + m)] rfl (by simp [Value.oneCell']) rfl rfl (by omega) b6.size ?_; intro u2 w7 hu2 hg2; have b7 := below_app b6 (Nat.le_refl _) hrow7 hg2 b6.size)
                    go_roundw
                    case rel => exact ⟨j + 1, by omega, by go_num, by rw [HPS.out, HRA.out]; exact hu2, b7⟩
                    case measure => simp [intOf]; omega
              · obtain rfl : j = n := by omega
                have hlen : (rnd cl M).length = j := by unfold rnd; rw [List.length_map, List.length_range, HN.out]
                have hrw : pref (rndAt cl M) j = rnd cl M := by unfold rnd pref; rw [HN.out]
                rw [hrw] at hrow
                have HO := Lib.hid hrow
                have HL := Lib.hid hlen
                clear hrow hrw hlen
                go_wp2
                go_ret2
                exact ⟨⟨_, by rw [hE.out.1]; rfl, by rw [hE.out.2, HL.out]; exact HO.out⟩, hbr⟩
end Go.Proofs.Ytalcgleepobccaa
