/- Contracts: which clocks are the same, of the program and of the document. -/
import Derived.Test.YtimcljlbjnhpnaaC1
import Derived.Test.YtimcljlbjnhpnaaC3
namespace Go.Proofs.Ytimcljlbjnhpnaa
open Go.RowKit Go.Shelf
open Md

def sameB (a b : Ck) : Bool := decide (a.st = b.st) && decide (a.sl = b.sl) && decide (a.dl = b.dl)

set_option maxRecDepth 100000 in
set_option maxHeartbeats 1600000 in
theorem same_any (a b : Ck) (w : World) (ha : GoodCk w a) (hb : GoodCk w b) :
    Calls Try.prog 20 #[clv a, clv b] w fun e w' => e = .returned (.bool (sameB a b)) ∧ Below w.heap.size w w' := by
  have HV : Hid (sameB a b = (decide (a.st = b.st) && decide (a.sl = b.sl) && decide (a.dl = b.dl))) := rfl
  generalize sameB a b = v at *
  have HA := Lib.hid ha.1
  have HB := Lib.hid hb.1
  have hla := ha.1.len
  have hlb := hb.1.len
  obtain ⟨ast, asl, ada, adc, adl⟩ := a
  obtain ⟨bst, bsl, bda, bdc, bdl⟩ := b
  unfold clv at *
  simp only at *
  clear ha hb
  have HJ : Hid (Blk ((w.alloc (.cells #[.int .i64 ast, .int .i64 asl, .slice ada adl.length adc] 28)).alloc (.cells #[.int .i64 bst, .int .i64 bsl, .slice bda bdl.length bdc] 28)) w.heap.size 28 #[.int .i64 ast, .int .i64 asl, .slice ada adl.length adc] ∧ Blk ((w.alloc (.cells #[.int .i64 ast, .int .i64 asl, .slice ada adl.length adc] 28)).alloc (.cells #[.int .i64 bst, .int .i64 bsl, .slice bda bdl.length bdc] 28)) (w.heap.size + 1) 28 #[.int .i64 bst, .int .i64 bsl, .slice bda bdl.length bdc] ∧ Below w.heap.size w ((w.alloc (.cells #[.int .i64 ast, .int .i64 asl, .slice ada adl.length adc] 28)).alloc (.cells #[.int .i64 bst, .int .i64 bsl, .slice bda bdl.length bdc] 28))) :=
    ⟨(Blk.new' rfl).alloc _, Blk.new' (by simp), below2 w _ _⟩
  go_enter Try.func20, Try.ntmps20
  by_cases h1 : ast = bst
  rotate_left
  · have hv : v = false := by rw [HV.out, decide_eq_false h1]; rfl
    subst hv
    go_wp2
    go_ret
    exact ⟨rfl, HJ.out.2.2⟩
  subst h1
  by_cases h2 : asl = bsl
  rotate_left
  · have hv : v = false := by rw [HV.out, decide_eq_false h2]; simp
    subst hv
    go_wp2
    go_ret
    exact ⟨rfl, HJ.out.2.2⟩
  subst h2
  have hv : v = decide (adl = bdl) := by rw [HV.out]; simp
  have hq := (equal_any adl bdl _ _ _ (HA.out.below HJ.out.2.2) (HB.out.below HJ.out.2.2)).mono (R' := fun e w' => e = .returned (.bool v) ∧ Below (((w.alloc (.cells #[.int .i64 ast, .int .i64 asl, .slice ada adl.length adc] 28)).alloc (.cells #[.int .i64 ast, .int .i64 asl, .slice bda bdl.length bdc] 28))).heap.size ((w.alloc (.cells #[.int .i64 ast, .int .i64 asl, .slice ada adl.length adc] 28)).alloc (.cells #[.int .i64 ast, .int .i64 asl, .slice bda bdl.length bdc] 28)) w') (fun e w1 h => ⟨h.1.trans (congrArg (fun b => Ending.returned (.bool b)) (by rw [hv])), h.2⟩)
  clear hv HV
  go_wp2_with fail
  refine hq.mono ?_
  rintro e w1 ⟨rfl, hb⟩
  cases v
  all_goals
    go_wp2
    go_ret
    exact ⟨rfl, bt HJ.out.2.2 hb⟩

set_option maxRecDepth 100000 in
set_option maxHeartbeats 1600000 in
theorem rsame_any (a b : Ck) (w : World) (ha : GoodCk w a) (hb : GoodCk w b) :
    Calls Try.prog 21 #[clv a, clv b] w fun e w' => e = .returned (.bool (sameB a b)) ∧ Below w.heap.size w w' := by
  have HV : Hid (sameB a b = (decide (a.st = b.st) && decide (a.sl = b.sl) && decide (a.dl = b.dl))) := rfl
  generalize sameB a b = v at *
  have HA := Lib.hid ha.1
  have HB := Lib.hid hb.1
  have hla := ha.1.len
  have hlb := hb.1.len
  obtain ⟨ast, asl, ada, adc, adl⟩ := a
  obtain ⟨bst, bsl, bda, bdc, bdl⟩ := b
  unfold clv at *
  simp only at *
  clear ha hb
  have HJ : Hid (Blk ((w.alloc (.cells #[.int .i64 ast, .int .i64 asl, .slice ada adl.length adc] 28)).alloc (.cells #[.int .i64 bst, .int .i64 bsl, .slice bda bdl.length bdc] 28)) w.heap.size 28 #[.int .i64 ast, .int .i64 asl, .slice ada adl.length adc] ∧ Blk ((w.alloc (.cells #[.int .i64 ast, .int .i64 asl, .slice ada adl.length adc] 28)).alloc (.cells #[.int .i64 bst, .int .i64 bsl, .slice bda bdl.length bdc] 28)) (w.heap.size + 1) 28 #[.int .i64 bst, .int .i64 bsl, .slice bda bdl.length bdc] ∧ Below w.heap.size w ((w.alloc (.cells #[.int .i64 ast, .int .i64 asl, .slice ada adl.length adc] 28)).alloc (.cells #[.int .i64 bst, .int .i64 bsl, .slice bda bdl.length bdc] 28))) :=
    ⟨(Blk.new' rfl).alloc _, Blk.new' (by simp), below2 w _ _⟩
  go_enter Try.func21, Try.ntmps21
  by_cases h1 : ast = bst
  rotate_left
  · have hv : v = false := by rw [HV.out, decide_eq_false h1]; rfl
    subst hv
    go_wp2
    go_ret
    exact ⟨rfl, HJ.out.2.2⟩
  subst h1
  by_cases h2 : asl = bsl
  rotate_left
  · have hv : v = false := by rw [HV.out, decide_eq_false h2]; simp
    subst hv
    go_wp2
    go_ret
    exact ⟨rfl, HJ.out.2.2⟩
  subst h2
  have hv : v = decide (adl = bdl) := by rw [HV.out]; simp
  clear HV
  by_cases h3 : adl.length = bdl.length
  rotate_left
  · have hv2 : v = false := by rw [hv]; exact decide_eq_false (fun e => h3 (by rw [e]))
    subst hv2
    clear hv
    have h4 : ¬ (adl.length : Int) = bdl.length := by omega
    go_wp2
    go_ret
    exact ⟨rfl, HJ.out.2.2⟩
  have HV := Lib.hid hv
  have HL := Lib.hid h3
  clear hv
  have hsb : bdl.length = adl.length := h3.symm
  obtain ⟨a0, a1, a2⟩ := HJ.out.1.three; obtain ⟨b0, b1, b2⟩ := HJ.out.2.1.three; have hz0 := HJ.out.1.lt; have hz1 := HJ.out.2.1.lt
  rw [← h3] at HJ HB hlb ⊢
  clear h3 hsb
  go_wp2
  go_loopw [5] (fun i wr => ∃ k : Nat, k ≤ adl.length ∧ i = .int .i64 k ∧ Hid (adl.take k = bdl.take k) ∧ Hid (Blk wr w.heap.size 28 #[.int .i64 ast, .int .i64 asl, .slice ada adl.length adc] ∧ Blk wr (w.heap.size + 1) 28 #[.int .i64 ast, .int .i64 asl, .slice bda adl.length bdc] ∧ Below w.heap.size w wr)) (fun i _ => adl.length - (intOf i).toNat)
  case atStart => exact ⟨0, Nat.zero_le _, rfl, rfl, HJ⟩
  case round =>
    obtain ⟨k, hk, rfl, hany, HJ⟩ := hrel
    obtain ⟨a0, a1, a2⟩ := HJ.out.1.three; obtain ⟨b0, b1, b2⟩ := HJ.out.2.1.three; have hz0 := HJ.out.1.lt; have hz1 := HJ.out.2.1.lt
    by_cases hlt : k < adl.length
    · obtain ⟨b, off, rfl, hbl, hc⟩ := HA.out.row (by rintro rfl; simp at hlt)
      obtain ⟨b', off', rfl, hbl', hc'⟩ := HB.out.row (by rintro rfl; have := HL.out; simp only [List.length_nil] at this; omega)
      have hck : wr.cell? ⟨b, off + k, none⟩ = some (.int .i64 (adl.getD k 0)) := by rw [HJ.out.2.2.cell hbl, hc k hlt]
      have hck' : wr.cell? ⟨b', off' + k, none⟩ = some (.int .i64 (bdl.getD k 0)) := by rw [HJ.out.2.2.cell hbl', hc' k (by rw [← HL.out]; exact hlt)]
      have hi : (k : Int) < adl.length := by omega
      clear hc hc'
      obtain ⟨x, hx⟩ : ∃ x, x = adl.getD k 0 := ⟨_, rfl⟩
      obtain ⟨y, hy⟩ : ∃ y, y = bdl.getD k 0 := ⟨_, rfl⟩
      rw [← hx] at hck
      rw [← hy] at hck'
      have HX := Lib.hid hx
      have HY := Lib.hid hy
      clear hx hy
      have HT : Hid (adl.take (k + 1) = adl.take k ++ [x] ∧ bdl.take (k + 1) = bdl.take k ++ [y]) := ⟨by rw [HX.out]; exact take_getD adl k hlt, by rw [HY.out]; exact take_getD bdl k (by rw [← HL.out]; exact hlt)⟩
      by_cases hxy : x = y
      · subst hxy
        go_wp2
        go_quiet (fail)
        go_wp2
        go_roundw
        case rel => exact ⟨k + 1, by omega, by go_num, show _ = _ by rw [HT.out.1, HT.out.2, hany.out], two_boxes HJ.out (below_drewN (Below.refl _ _) _)⟩
        case measure => simp [intOf]; omega
      · have hxy' : (x == y) = false := by simpa using hxy
        have hxy'' : (x != y) = true := by simpa using hxy
        have HN := Lib.hid hxy
        clear hxy
        go_wp2
        go_quiet (fail)
        go_wp2
        go_ret
        refine ⟨ret_bool ?_, below_drewN HJ.out.2.2 _⟩
        rw [HV.out, eq_comm, decide_eq_false_iff_not]
        intro e
        subst e
        exact HN.out (by rw [HX.out, HY.out])
    · go_wp2
      go_ret
      refine ⟨ret_bool ?_, HJ.out.2.2⟩
      rw [HV.out, eq_comm, decide_eq_true_iff]
      have := hany.out
      rwa [List.take_of_length_le (by omega), List.take_of_length_le (by have := HL.out; omega)] at this
end Go.Proofs.Ytimcljlbjnhpnaa
