/- The walk of FtaWithin. -/
import Derived.Test.YtalcgleepobccaaW7
import Derived.Deep.RegionLaw
import Derived.Deep.DeepCutAuto
namespace Go.Proofs.Ytalcgleepobccaa
open Go.RowKit Go.Shelf

/-- An append as one step of a region that draws its order. -/
theorem step_app {P : Program} {ops : Array Oper} {o : Oper} {a : Act} {w : World} {K : Act → World → Prop} {Q : Exit → Act → World → Prop} {E : Prop} {base : Nat} {t e : TypeId} {z : Value} {size bytes : Nat} (El : Elem P t e z size bytes)
    (hg : o.guard = none) (s x : Operand) (hop : o.op = .call { callee := .builtin .append, args := #[s, x], argTypes := #[t, t] })
    {v : Value} {n : Nat} {xs : List Value} (hown : w.ownsRow base e size v n xs) {sv : Value} {m : Nat} {news : List Value} (hsrc : Src w sv m news size) (hs : a.eval s = v) (hx : a.eval x = sv) (hby : (n + m) * bytes ≤ 140737488355328) (hbase : base ≤ w.heap.size)
    (hK : ∀ v' w', w'.ownsRow base e size v' (n + m) (xs ++ news) → w.grownBy w' v.ownBlock → K (a.put o.dst v') w') :
    if Region.wanted o (yielded ops a.tmps) = true then Oper.wp P o a w K Q else E := by
  have hw : Region.wanted o (yielded ops a.tmps) = true := by simp [Region.wanted, hg]
  rw [if_pos hw]
  obtain ⟨v', w', hr, h2, h3, _⟩ := run_app (ty := o.type) El hown hsrc hby hbase
  unfold Oper.wp execOp
  simp only [hop, resolve, invoke, builtin, Sem.run_bind, Sem.run_pure, Result.andThen_ok, List.map_toArray, List.map_cons, List.map_nil, hs, hx, hr]
  exact hK v' w' h2 h3

theorem Ints.drop {w : World} {b off n cap : Nat} {l : List Int} (h : Ints w (.slice (some ⟨b, off, none⟩) n cap) l) (k : Nat) (hk : k < l.length) : Ints w (.slice (some ⟨b, off + k, none⟩) (n - k) (cap - k)) (l.drop k) := by
  obtain ⟨a', cap', e, h1, h2, h3, h5, h6, h4⟩ := h
  simp only [Value.slice.injEq] at e
  obtain ⟨rfl, rfl, rfl⟩ := e
  refine ⟨_, _, by rw [List.length_drop], by simp; omega, by omega, by simp; omega, fun x hx => h5 x (List.mem_of_mem_drop hx), by simp, ?_⟩
  rcases h4 with rfl | ⟨b', off', e, hlt, hc⟩
  · simp at hk
  · simp only [Option.some.injEq, Addr.mk.injEq, and_true] at e
    obtain ⟨rfl, rfl⟩ := e
    refine .inr ⟨b, off + k, rfl, hlt, fun j hj => ?_⟩
    rw [Nat.add_assoc, hc (k + j) (by simp at hj; omega)]
    simp [List.getD_eq_getElem?_getD]

/-- The first j of a list's numbers raised by c. -/
def upd (L : List Int) (c : Int) (j : Nat) : List Int := (L.take j).map (· + c) ++ L.drop j
theorem upd_len (L : List Int) (c : Int) (j : Nat) : (upd L c j).length = L.length := by simp [upd]; omega
theorem upd_zero (L : List Int) (c : Int) : upd L c 0 = L := by simp [upd]
theorem upd_all (L : List Int) (c : Int) (j : Nat) (h : L.length ≤ j) : upd L c j = L.map (· + c) := by
  unfold upd
  rw [List.take_of_length_le h, List.drop_of_length_le h, List.append_nil]
theorem upd_get (L : List Int) (c : Int) (j : Nat) (h : j < L.length) : (upd L c j)[j]? = some (L.getD j 0) := by
  unfold upd
  rw [List.getElem?_append_right (by simp; omega)]
  simp [show min j L.length = j by omega, List.getD_eq_getElem?_getD, h]
theorem upd_set (L : List Int) (c : Int) (j : Nat) (h : j < L.length) : (upd L c j).set j (L.getD j 0 + c) = upd L c (j + 1) := by
  unfold upd
  rw [List.set_append_right _ _ (by simp; omega), take_getD L j h]
  simp only [List.length_map, List.length_take, show min j L.length = j by omega, Nat.sub_self, List.map_append, List.map_cons, List.map_nil, List.append_assoc]
  congr 1
  rw [List.drop_eq_getElem_cons h]
  simp only [List.set_cons_zero, List.cons_append, List.nil_append, List.getD_eq_getElem?_getD, List.getElem?_eq_getElem h, Option.getD_some]
theorem own_at {w : World} {base g n cap : Nat} {e : TypeId} {xs : List Value} (h : w.ownsRow base e 1 (.slice (some ⟨g, 0, none⟩) n cap) n xs) {j : Nat} {u : Value} (hx : xs[j]? = some u) : w.cell? ⟨g, j, none⟩ = some u ∧ w.frozen? ⟨g, j, none⟩ = false := by
  have hj : j < n := by have := (List.getElem?_eq_some_iff.1 hx).1; have := h.1; omega
  exact ⟨by rw [h.cellAt j (by omega)]; exact hx, h.frozenAt j⟩

set_option maxRecDepth 100000 in
set_option maxHeartbeats 1600000 in
theorem within_walk (l0 : List Int) (v0 : Value) (c0 a : Int) (w : World) (h : Ints w v0 l0) (_hc1 : -9223372036854775808 ≤ c0) (_hc2 : c0 ≤ 9223372036854775807) (ha : 0 ≤ a) (ha2 : a ≤ 255) :
    Calls Try.prog 3 #[v0, .int .i64 c0, .int .u8 a] w fun e w' => e = .returned (.bool true) ∧ Below w.heap.size w w' := by
  obtain ⟨c, hc⟩ : ∃ c, c0.tmod 1099511627776 = c := ⟨_, rfl⟩
  have hcb : -1099511627776 ≤ c ∧ c ≤ 1099511627776 := by
    have := Int.tmod_lt_of_pos c0 (show (0 : Int) < 1099511627776 by omega)
    have h2 : -1099511627776 < c0.tmod 1099511627776 := by
      have := Int.tmod_lt_of_pos (-c0) (show (0 : Int) < 1099511627776 by omega)
      rw [Int.neg_tmod] at this
      omega
    omega
  go_enter Try.func3, Try.ntmps3
  go_wp2_with fail
  refine (few_any l0 v0 w h).mono ?_
  rintro e w' ⟨⟨v, rfl, hv⟩, rfl⟩
  clear h
  generalize l0.take 60 = l at *
  go_wp2_with fail
  refine (mid_any l v _ hv).mono ?_
  rintro e w1 ⟨rfl, hb1⟩
  have hv1 := hv.below hb1
  clear hv
  go_wp2_with fail
  refine (kept_any l v _ hv1).mono ?_
  rintro e w2 ⟨rfl, hb2⟩
  have hv2 := hv1.below hb2
  clear hv1
  have hmid := @Fta.mid_ok l
  have hin := Fta.mid_within l
  have hkb := Fta.kept_bd l
  unfold Fta.bigB at hkb
  have hze : (Fta.kept l).2.2 = (Fta.mid l).2 := rfl
  rw [hze]
  obtain ⟨m, hm⟩ : ∃ m, m = (Fta.mid l).1 := ⟨_, rfl⟩
  obtain ⟨z, hz⟩ : ∃ z, z = (Fta.mid l).2 := ⟨_, rfl⟩
  rw [← hz] at hmid
  rw [← hm] at hin
  rw [← hm, ← hz]
  have HM := Lib.hid hm
  have HZ := Lib.hid hz
  clear hm hz hze
  generalize (Fta.kept l).1 = lo at *
  generalize (Fta.kept l).2.1 = hi at *
  have hmb1 : -1099511627776 ≤ m := by omega
  have hmb2 : m ≤ 1099511627776 := by omega
  clear hkb
  go_wp2_with fail
  refine (begun_any _).mono ?_
  rintro e w3 ⟨rfl, hb3⟩
  have hv3 := hv2.below hb3
  have b3 := hb1.trans ((hb2.trans (hb3.mono hb2.size)).mono hb1.size)
  clear hv2 hb1 hb2 hb3
  by_cases hz : z = 0
  · subst hz
    obtain ⟨hne, hbd⟩ := hmid.1 rfl
    clear hmid
    have hp : 0 < l.length := List.length_pos_iff.2 hne
    have hlen := hv3.len
    obtain ⟨k, hk, hkl⟩ : ∃ k : Nat, a % (l.length : Int) = k ∧ k < l.length := ⟨(a % (l.length : Int)).toNat, by have := Int.emod_nonneg a (show (l.length : Int) ≠ 0 by omega); omega, by
      have h1 := Int.emod_nonneg a (show (l.length : Int) ≠ 0 by omega)
      have h2 := Int.emod_lt_of_pos a (show (0 : Int) < l.length by omega)
      omega⟩
    obtain ⟨av, cap, rfl, q1, q2, q3⟩ := hv3.shape
    obtain ⟨b, off, rfl, hbl, _⟩ := hv3.row hne
    have hd := hv3.drop k hkl
    have ht := hv3.take k (by omega)
    have hkle : k ≤ l.length := by omega
    have hcapk : ¬ cap = k := by omega
    have hkc : k ≤ cap := by omega
    have hdr : Below w3.heap.size w3 w3.drew := (Below.refl _ w3).drew
    have HL : Hid ((l.drop k).length + (l.take k).length = l.length) := by show _ = _; simp; omega
    go_upto_region 10 with fail
    rw [hk]
    clear hk
    go_cut [13] (fun u wx => wx.ownsRow w3.heap.size 2 1 u (l.drop k ++ l.take k).length ((l.drop k ++ l.take k).map (.int .i64)) ∧ Below w3.heap.size w3 wx)
    case first =>
      have hct := clone_any (l.drop k) _ _ (hd.below hdr)
      generalize l.drop k = ld at *
      generalize l.take k = lt at *
      go_region_law (first
        | (refine step_app E22 rfl _ _ rfl hu ((ht.below hdr).below hb4).src rfl rfl (by have := HL.out; omega) hb4.size ?_; intro u2 w5 hu2 hg2)
        | (go_simp; go_at_call 13; refine hct.mono ?_; rintro e w4 ⟨⟨u, rfl, hu⟩, hb4⟩))
      go_wp2_with fail
      go_meet
      exact ⟨by simpa using hu2, below_app (hdr.trans (hb4.mono hdr.size)) (Nat.le_refl _) hu hg2 (hdr.trans (hb4.mono hdr.size)).size⟩
    case rest =>
      obtain ⟨hown, hb4⟩ := hcut
      have hperm : (l.drop k ++ l.take k).Perm l := by
        have := (List.perm_append_comm (l₁ := l.drop k) (l₂ := l.take k))
        rwa [List.take_append_drop] at this
      have hmp := Fta.mid_perm hperm
      have hLb : ∀ x ∈ l.drop k ++ l.take k, -Fta.bigB ≤ x ∧ x ≤ Fta.bigB := fun x hx => hbd x (hperm.mem_iff.1 hx)
      have hLl : (l.drop k ++ l.take k).length = l.length := hperm.length_eq
      have hLn : l.drop k ++ l.take k ≠ [] := by intro e; rw [e] at hLl; simp at hLl; omega
      have HP : Hid (Fta.mid (l.drop k ++ l.take k) = Fta.mid l) := hmp
      clear hd ht HL hperm
      generalize l.drop k ++ l.take k = L at *
      have hLi : ∀ x ∈ L, I64 x := fun x hx => by have := hLb x hx; unfold Fta.bigB at this; unfold I64; omega
      have hLlen : L.length ≤ 17592186044416 := by omega
      clear hLl hmp
      have hi4 := Ints.of_owns hown hLlen hLi
      obtain ⟨g, capg, rfl, hg, hgl, hlc, hcap, _, _⟩ := own_head hown hLn
      have hm1 : (Fta.mid L).1 = m ∧ (Fta.mid L).2 = 0 := by rw [HP.out, ← HM.out, ← HZ.out]; exact ⟨rfl, rfl⟩
      go_wp2_with fail
      have hmc := mid_any L _ _ hi4
      rw [hm1.1, hm1.2] at hmc
      refine hmc.mono ?_
      rintro e w5 ⟨rfl, hb5⟩
      clear hmc
      have hown5 : w5.ownsRow w3.heap.size 2 1 (.slice (some ⟨g, 0, none⟩) L.length capg) L.length (L.map (.int .i64)) := hown.kept (row := none) ⟨hb5.os, hb5.tape, hb5.output, hb5.size, fun k hk _ => hb5.block k hk⟩ (.inr (by simp [Value.ownBlock]))
      have b5 : Below w3.heap.size w3 w5 := hb4.trans (hb5.mono hb4.size)
      have HM1 := Lib.hid hm1
      clear hown hi4 hv3 hne hbd hm1
      go_wp2_with fail
      have hstart : w5.ownsRow w3.heap.size 2 1 (.slice (some ⟨g, 0, none⟩) L.length capg) L.length ((upd L c 0).map (.int .i64)) := by rw [upd_zero]; exact hown5
      go_loopw [63] (fun i wr => ∃ j : Nat, j ≤ L.length ∧ i = .int .i64 j ∧ wr.ownsRow w3.heap.size 2 1 (.slice (some ⟨g, 0, none⟩) L.length capg) L.length ((upd L c j).map (.int .i64)) ∧ Below w3.heap.size w3 wr) (fun i _ => L.length - (intOf i).toNat)
      case atStart => exact ⟨0, Nat.zero_le _, rfl, hstart, b5⟩
      case round =>
        obtain ⟨j, hj, rfl, hrow, hbr⟩ := hrel
        clear hown5 hstart b5
        by_cases hlt : j < L.length
        · have hca := own_at hrow (j := j) (u := .int .i64 (L.getD j 0)) (by rw [List.getElem?_map, upd_get L c j hlt]; rfl)
          have hcc := hca.1
          have hcf := hca.2
          have hxi := hLb _ (getD_mem hlt)
          unfold Fta.bigB at hxi
          have hst := (hrow.stored j (.int .i64 (L.getD j 0 + c))).1
          rw [map_set, upd_set L c j hlt] at hst
          clear hca hrow
          generalize L.getD j 0 = x at *
          go_wp2
          go_roundw
          case rel => exact ⟨j + 1, by omega, by go_num, hst, hbr.setCell (p := ⟨g, j, none⟩) hg _⟩
          case measure => simp [intOf]; omega
        · rw [upd_all L c j (by omega)] at hrow
          have hlm : L.length = (L.map (· + c)).length := by simp
          have hrow' : wr.ownsRow w3.heap.size 2 1 (.slice (some ⟨g, 0, none⟩) L.length capg) (L.map (· + c)).length ((L.map (· + c)).map (.int .i64)) := by rw [← hlm]; exact hrow
          have hi6 := Ints.of_owns hrow' (by rw [← hlm]; exact hLlen) (fun y hy => by
            obtain ⟨x, hx, rfl⟩ := List.mem_map.1 hy
            have := hLb x hx; unfold Fta.bigB at this; unfold I64; omega)
          have hsh := Fta.mid_shift L c
          rw [HM1.out.1, HM1.out.2] at hsh
          have hmb := hin
          clear hrow hrow' hlm hLb hLi
          have hmL := mid_any (L.map (· + c)) _ _ hi6
          go_wp2_with fail
          refine hmL.mono ?_
          rintro e w7 ⟨rfl, hb7⟩
          clear hmL hi6
          have b7 : Below w3.heap.size w3 w7 := hbr.trans (hb7.mono hbr.size)
          generalize (Fta.mid (L.map (· + c))).1 = m' at *
          generalize (Fta.mid (L.map (· + c))).2 = z' at *
          obtain ⟨t1, t2⟩ := hin
          have d1 : decide (lo ≤ m) = true := by simpa using t1
          have d2 : decide (m ≤ hi) = true := by simpa using t2
          by_cases hz' : z' = 0
          · subst hz'
            have hq := hsh trivial rfl
            subst hq
            clear hsh
            go_wp2
            go_ret
            exact ⟨rfl, b3.trans (b7.mono b3.size)⟩
          · have hz2 : (z' != 0) = true := by simpa using hz'
            clear hsh hz'
            go_wp2
            go_ret
            exact ⟨rfl, b3.trans (b7.mono b3.size)⟩
  · have hz2 : (z != 0) = true := by simpa using hz
    clear hmid hz
    go_wp2
    go_ret
    exact ⟨rfl, b3⟩
end Go.Proofs.Ytalcgleepobccaa
