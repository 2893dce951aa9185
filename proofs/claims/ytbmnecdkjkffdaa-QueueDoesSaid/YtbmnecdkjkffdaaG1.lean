/- slices.Clone, slices.SortFunc at events; the iterator of All. -/
import Derived.Test.YtbmnecdkjkffdaaP5
import Derived.Test.YtbmnecdkjkffdaaShelf
import Derived.Test.YtbmnecdkjkffdaaSortK
import Derived.Test.YtbmnecdkjkffdaaKt
import Derived.Test.YtbmnecdkjkffdaaE12
namespace Go.Proofs.Ytbmnecdkjkffdaa
open Go.RowKit Go.Shelf
attribute [local go_sem] Oper.semAt_some

theorem clone_any (l : List Ev) (v : Value) (w : World) (h : Rd encE 4 w v l) (hl : l.length ≤ 16384) :
    Calls Try.prog 13 #[v] w fun e w' => (∃ v', e = .returned v' ∧ w'.ownsRow w.heap.size 31 4 v' l.length (l.flatMap encE)) ∧ Below w.heap.size w w' := by
  have h0 := h
  obtain ⟨a, cap, rfl, h1, h2, h3⟩ := h.shape
  cases a with
  | none =>
    obtain ⟨rfl, _, rfl⟩ := h.none_
    clear h h0
    have hq := fun w : World => Lib.run_eql_slice_nil (P := Try.prog) w 22 31 none 0 0 0 0 Try.underlying22
    go_enter Try.func13, Try.ntmps13
    go_wp2
    go_ret
    exact ⟨⟨_, rfl, by simpa using World.ownsRow_nil _ _ _ _⟩, Below.refl _ _⟩
  | some ad =>
    have hnq := fun w : World => Lib.run_eql_slice_nil (P := Try.prog) w 22 31 (some ad) l.length cap 0 0 Try.underlying22
    have hal : Below w.heap.size w (w.alloc (.cells #[] 31)) := (Below.refl _ _).alloc (Nat.le_refl _) _
    have hs := (h.below hal).src encE_len encE_one (by omega)
    have hown : (w.alloc (.cells #[] 31)).ownsRow w.heap.size 31 4 (.slice (some ⟨w.heap.size, 0, none⟩) 0 0) 0 [] := World.ownsRow_made w #[] 0 (Nat.le_refl _) (by decide) rfl
    clear h h0
    go_enter Try.func13, Try.ntmps13
    go_wp2_with (at_builtin; refine wpList_app E22 rfl _ _ rfl hown hs rfl rfl (by omega) (by simp) ?_; intro v' w1 hown1 hgrow _)
    go_ret
    refine ⟨⟨_, rfl, by simpa using hown1⟩, below_app hal (Nat.le_refl _) hown hgrow (by simp)⟩
theorem ltOfE (x y : Ev) : ltOf cmpE x y = ltE x y := rfl
theorem swoE : Sort.SWO (ltOf cmpE) where
  irrefl x := by rw [ltOfE, ltE_false]; exact Lt.irrefl x
  trans x y z h1 h2 := by rw [ltOfE, ltE_iff] at *; exact h1.trans h2
  ntrans x y z h1 h2 := by rw [ltOfE, ltE_false] at *; exact nlt_trans h2 h1
instance : Inhabited Ev := ⟨E0⟩
theorem sort_any (l : List Ev) (v : Value) (B : Nat) (w0 w : World) (hb : Below B w0 w) (hB : B ≤ w.heap.size) (hl : l.length ≤ 16384)
    (h : w.ownsRow B 31 4 v l.length (l.flatMap encE)) :
    Calls Try.prog 30 #[v, .func (.func 31) #[] #[]] w fun r w' =>
      r = .returned (.tuple #[]) ∧ w'.ownsRow B 31 4 v l.length ((sortE l).flatMap encE) ∧ Below B w0 w' := by
  have := sort_ownK Try.sortEv Try.isAgg31 Try.sizeOf31 encE_len (by decide) encE_one cmpE swoE 31 (enters_of Try.func31 (by kernel_rfl) rfl) compare_any l 31 v B w0 w hb hB (by omega) h
  refine this.mono fun r w' ⟨he, ⟨m, hp, hs, ho⟩, hb'⟩ => ⟨he, ?_, hb'⟩
  have hm : m = sortE l := sortE_of_rise (hs.imp fun {a b} hab => by rw [ltOfE, ltE_false] at hab; exact hab) hp
  rw [← hm]
  exact ho
def encQ (x : Ev) : Array Value := #[.agg (encE x).toArray]
set_option maxRecDepth 100000 in
set_option maxHeartbeats 1600000 in
theorem all1_in (n : Nat) (hn : 1 ≤ n) (y g1 n₀ bx q : Nat) (sv : Value) (h : List Ev) (now : Int) (J Jx : List Ev → World → Prop) (W : World) (hJ : AbidesFrom W.heap.size J)
    (hY : ∀ pre x W1, J pre W1 → pre.length < h.length → YieldAt Fence.wide (n - 1) Try.prog y (encQ x) W1 fun e W' =>
      (e = .returned (.bool true) ∧ J (pre ++ [x]) W' ∧ KT n₀ bx W1 W') ∨ (e = .returned (.bool false) ∧ Jx (pre ++ [x]) W'))
    (hn₀ : n₀ ≤ W.heap.size) (h1 : W.cell? ⟨g1, 0, none⟩ = some (.pointer (some ⟨q, 0, none⟩))) (hq : Qu W q sv h now) (hl : h.length ≤ 16384)
    (hbx : ∃ v, W.cell? ⟨bx, 0, none⟩ = some v ∧ ∀ g, v.ownBlock = some g → g < W.heap.size) (h0 : J [] W) :
    CallsIn Fence.wide n Try.prog 29 #[.func (.yield y) #[] #[], .pointer (some ⟨g1, 0, none⟩)] W fun e W' => (∃ v, e = .returned v) ∧
      ((∃ xs, xs = sortE h ∧ J xs W') ∨ (∃ pre, pre <+: sortE h ∧ Jx pre W')) := by
  have hbl : bx < W.heap.size := by obtain ⟨v, hv, -⟩ := hbx; exact World.block_lt_of_cell? _ _ hv
  obtain ⟨sa, sc, rfl, hsc, hscm, -⟩ := owns_shape hq.2
  have hmade := made_any q true _ now W hq.1
  have cq : W.cell? ⟨q, 1, none⟩ = some (.slice sa h.length sc) := hq.1.cell 1
  have hcl := clone_any h _ W (Rd.of_owns encE_len hq.2 (by omega)) hl
  have hsort := fun v w' (hb : Below W.heap.size W w') ho => sort_any h v W.heap.size W w' hb hb.size hl ho
  have HL := Lib.hid (sortE_len h)
  have HLH := Lib.hid hl
  have hlb := hl
  have HSO := Lib.hid hsort
  have HBX := Lib.hid hbx
  clear hsort hq hbx hl
  generalize sortE h = S at *
  refine callsIn_of_wp Try.func29 rfl trivial ?_ rfl
  simp only [Try.ntmps29, List.size_toArray, List.length_cons, List.length_nil, Nat.reduceAdd, Nat.reduceSub, Array.replicate_succ, Array.replicate_zero, List.push_toArray, List.append_toArray, List.nil_append, List.cons_append]
  gi_wp2_with (first | (refine ⟨trivial, ?_⟩; gi_at_call 27; refine (callsIn_wide.2 hmade).mono ?_; rintro e w' ⟨rfl, rfl⟩) | (refine ⟨trivial, ?_⟩; gi_at_call 13; refine (callsIn_wide.2 hcl).mono ?_; rintro e w1 ⟨⟨v1, rfl, ho1⟩, hb1⟩; obtain ⟨a1, c1, rfl, q1, q2, -⟩ := owns_shape ho1; have HO1 := Lib.hid ho1; have HB1 := Lib.hid hb1; clear ho1 hb1) | (refine ⟨trivial, ?_⟩; gi_at_call 30; refine (callsIn_wide.2 (HSO.out _ _ HB1.out HO1.out)).mono ?_; rintro e w2 ⟨rfl, ho2, hb2⟩; have HO2 := Lib.hid ho2; have HB2 := Lib.hid hb2; clear ho2 hb2 hmade hcl cq h1))
  have h02 : J [] w2 := hJ _ _ _ none h0 (grown_of_below HB2.out) (by simp)
  have HBX2 : Hid (∃ v, w2.cell? ⟨bx, 0, none⟩ = some v ∧ ∀ g, (Value.slice a1 h.length c1).ownBlock = some g → v.ownBlock ≠ some g) := by
    obtain ⟨v, hv, hg⟩ := HBX.out
    refine ⟨v, keepCell HB2.out hv, fun g e e' => ?_⟩
    have := hg g e'
    have := (HO2.out.lt g e).1
    omega
  have hz2 : W.heap.size ≤ w2.heap.size := HB2.out.size
  clear h0 HSO HO1 HB1 HBX q1
  obtain ⟨nn, hnn⟩ : ∃ nn, h.length = nn := ⟨_, rfl⟩
  rw [hnn] at HL HLH HO2 HBX2 hlb hY
  rw [hnn]
  have HN := Lib.hid hnn
  clear hnn
  gi_wp2
  gi_loopw [18] (fun i wr => ∃ k : Nat, k ≤ nn ∧ i = .int .i64 k ∧ J (S.take k) wr ∧ Hid (wr.ownsRow W.heap.size 31 4 (.slice a1 nn c1) nn (S.flatMap encE)) ∧ Hid (∃ v, wr.cell? ⟨bx, 0, none⟩ = some v ∧ ∀ g, (Value.slice a1 nn c1).ownBlock = some g → v.ownBlock ≠ some g) ∧ W.heap.size ≤ wr.heap.size)
    (fun i _ => nn - (intOf i).toNat)
  case atStart => exact ⟨0, Nat.zero_le _, rfl, h02, HO2, HBX2, hz2⟩
  case round =>
    clear h02 hz2 HBX2 HO2
    obtain ⟨k, hk, rfl, hJs, HO, HBX, hsz⟩ := hrel
    by_cases hlt : k < nn
    · obtain ⟨x, hs⟩ : ∃ x, S[k]? = some x := ⟨_, List.getElem?_eq_getElem (by rw [HL.out]; exact hlt)⟩
      have hOr : wr.ownsRow W.heap.size 31 4 (.slice a1 nn c1) S.length (S.flatMap encE) := by rw [HL.out]; exact HO.out
      obtain ⟨b, off, e0, hbl2, hc⟩ := (Rd.of_owns encE_len hOr (by rw [HL.out]; omega)).row (by rintro rfl; simp at hs)
      subst e0
      clear hOr
      have HC := Lib.hid (hc k x hs)
      have HTK : Hid (S.take (k + 1) = S.take k ++ [x]) := take_snoc hs
      have hlen : (S.take k).length < nn := by rw [List.length_take, HL.out]; omega
      have HLN := Lib.hid hlen
      have HPX : Hid (S.take (k + 1) <+: S) := List.take_prefix _ _
      clear hc hs hlen
      gi_wp2_with (first
        | (refine wpListIn_loadW W31 rfl rfl rfl (encE x) rfl HC.out ?_)
        | (refine wpListIn_boxW W31 rfl rfl rfl (encE x) rfl rfl (encE_one x) rfl ?_; intro W1 HX hal hz1; have HK := Lib.hid HX.list; have zz : wr.heap.size < W1.heap.size := (by omega); obtain ⟨fn, tmps, assign, body, hy, hR⟩ := hY _ x W1 (hJ _ _ _ none hJs (grown_of_below hal) (by simp)) HLN.out; unfold encQ at hy)
        | (refine wpListIn_loadW W31 rfl rfl rfl (encE x) rfl HK.out ?_))
      have HAL := Lib.hid hal
      clear hal
      refine hR.mono ?_
      rintro e W3 (⟨rfl, hJ3, hk3⟩ | ⟨rfl, hJx3⟩)
      · have HO3 : Hid (W3.ownsRow W.heap.size 31 4 (.slice (some ⟨b, off, none⟩) nn c1) nn (S.flatMap encE) ∧ (∃ v, W3.cell? ⟨bx, 0, none⟩ = some v ∧ ∀ g, (Value.slice (some ⟨b, off, none⟩) nn c1).ownBlock = some g → v.ownBlock ≠ some g)) :=
          kt_round (ow_below HO.out HAL.out) (by obtain ⟨v, hv, hg⟩ := HBX.out; exact ⟨v, keepCell HAL.out hv, hg⟩) hk3 hbl
        have hz3 : W.heap.size ≤ W3.heap.size := Nat.le_trans hsz (Nat.le_trans HAL.out.size hk3.bel.size)
        clear hk3
        gi_wp2
        go_roundw
        case rel => exact ⟨k + 1, by omega, by go_num, by rw [HTK.out]; exact hJ3, HO3.out.1, HO3.out.2, hz3⟩
        case measure => simp [intOf]; omega
      · gi_wp2
        refine bodyPost_ret (results_none rfl _ _ _) rfl ?_
        refine ⟨⟨_, rfl⟩, .inr ⟨_, ?_, hJx3⟩⟩
        rw [← HTK.out]
        exact HPX.out
    · obtain rfl : nn = k := by omega
      have HJF : Hid (J S wr) := by
        show J S wr
        rw [← HL.out, List.take_length] at hJs
        exact hJs
      clear hJs HO HBX
      gi_wp2
      go_end0
      exact ⟨⟨_, rfl⟩, .inl ⟨_, rfl, HJF.out⟩⟩
end Go.Proofs.Ytbmnecdkjkffdaa
