/- The reader's host. -/
import Derived.Test.YtjaaldeaknmmbaaDoorX5
namespace Go.Proofs.YtjaaldeaknmmbaaDoor
open Go.RowKit Go.Shelf

theorem Rd.frs {α : Type} {enc : α → List Value} {size : Nat} {X Y : World} {v : Value} {l : List α} {F : Nat → Prop} (h : Rd enc size X v l) (k : Fr F X Y) (hne : ∀ g o n c, v = .slice (some ⟨g, o, none⟩) n c → ¬ F g) : Rd enc size Y v l := by
  obtain ⟨a, cap, rfl, h1, h2, h3, h5, h4⟩ := h
  refine ⟨a, cap, rfl, h1, h2, h3, h5, ?_⟩
  rcases h4 with h4 | ⟨g, off, rfl, hlt, hc⟩
  · exact .inl h4
  · refine .inr ⟨g, off, rfl, Nat.lt_of_lt_of_le hlt k.size, fun j x hx i u hu => ?_⟩
    have e := k.block g hlt (hne g off _ _ rfl)
    have := hc j x hx i u hu
    rw [← this]
    exact World.cell?_of_block e
theorem exec_tailS {w : World} {o : Oper} {ac : Act} {x : Operand} {g off : Nat} {n c : Nat} (k : Nat) (hk : k ≤ n) (hnc : n ≤ c) (hkc : k < c) (ho : o.op = .slice 80 x (some (.const (.int .i64 (k : Int)))) none none) (hx : ac.eval x = .slice (some ⟨g, off, none⟩) n c) :
    (execOp ac.eval o).run Tryd.prog w = .ok (.value (.slice (some ⟨g, off + k, none⟩) (n - k) (c - k))) w := by
  rw [exec_tail k hk hnc ho hx]
  unfold sliced
  rw [if_neg (by omega)]
  simp [Addr.add]
theorem wds_tail {W : World} {g o c : Nat} {a b d e f : List UInt8} (h : Wds W (.slice (some ⟨g, o, none⟩) 5 c) [a, b, d, e, f]) (hc : 5 ≤ c) : Wds W (.slice (some ⟨g, o + 4, none⟩) 1 (c - 4)) [f] := by
  have := Rd.part h 4 5 (by omega) (by simp)
  unfold sliced at this
  rw [if_neg (by omega)] at this
  simpa [Addr.add] using this
theorem own_nil3 {W : World} {B e s : Nat} {a : Option Addr} {n c : Nat} (h1 : a = none) (h2 : n = 0) (h3 : c = 0) : W.ownsRow B e s (.slice a n c) 0 [] := by
  subst h1 h2 h3
  exact ⟨by simp, .inl ⟨rfl, rfl⟩⟩
theorem sn_noout (z : Sn) (h1 : z.oa = none) (h2 : z.on = 0) (h3 : z.oc = 0) : { z with oa := none, on := 0, oc := 0 } = z := by
  cases z
  simp only at h1 h2 h3
  subst h1 h2 h3
  rfl
theorem OwnX.fr7 {F : Nat → Prop} {B br b7 : Nat} {W X : World} {y : Sx} {cr c7 : Array Value} (h : OwnX B W y) (k : Fr F W X) (hF : ∀ j, F j → j = br ∨ j = b7) (hr : Blk W br 52 cr) (h7 : Blk W b7 49 c7) (hn : ¬ (Value.slice y.s.ia y.s.nn y.s.ic).ownBlock = some b7) : OwnX B X y := by
  have k5 : ∀ {v n xs s}, W.ownsRow B 5 s v n xs → X.ownsRow B 5 s v n xs := fun h => own_fr h k fun g hg hf => by
    rcases hF g hf with rfl | rfl
    · exact own_apart h hr (by decide) g hg rfl
    · exact own_apart h h7 (by decide) g hg rfl
  refine ⟨k5 h.out, h.ob, own_fr h.inn k fun g hg hf => ?_, fun m hm => ⟨k5 (h.each m hm).1, (h.each m hm).2⟩⟩
  rcases hF g hf with rfl | rfl
  · exact own_apart h.inn hr (by decide) g hg rfl
  · exact hn hg
theorem blkF {W : World} {j b : Nat} {t : TypeId} {cs : Array Value} (h : Blk W b t cs) (h5 : t ≠ 5) (h9 : t ≠ 49) (e : j = b) : ∃ t' cs', Blk W j t' cs' ∧ t' ≠ 5 ∧ t' ≠ 49 := by subst e; exact ⟨_, _, h, h5, h9⟩
theorem box_apart (a : Option Addr) (n c : Nat) (z : Int) : ∀ j x y, ([.slice a n c, .int .i64 z] : List Value)[j]? = some (strV x) → ([.slice a n c, .int .i64 z] : List Value)[j + 1]? = some (strV y) → False := by
  intro j x y h1 _
  have hm := List.mem_of_getElem? h1
  simp [strV] at hm
theorem ins_le {k : Nat} {r r' : List UInt8} {n n' : Nat} {ms : List (Int × List UInt8)} (h : insP k r n = (some (ms, r'), n')) : ms.length ≤ r.length := by
  obtain ⟨_, e, _⟩ := insP_some h
  have : ∀ l : List (Int × List UInt8), l.length ≤ (l.flatMap inW).length := fun l => by
    induction l with
    | nil => simp
    | cons m l ih =>
      have : 1 ≤ (inW m).length := by unfold inW lineW; simp
      simp only [List.flatMap_cons, List.length_append, List.length_cons]
      omega
  have := this ms
  rw [e, List.length_append]
  omega
def HostPost (br bs : Nat) (s : RdS) (z : Sn) (w : World) (e : Ending) (w' : World) : Prop :=
  e = .returned (.tuple #[]) ∧ ∃ (s' : RdS) (y : Sx), Blk w' br 52 (rdC s').toArray ∧ Blk w' bs 43 (encS y.s).toArray ∧ Fr (fun j => j = br ∨ j = bs) w w' ∧ RdOk s' ∧ MaxLen w' ∧ OwnX w.heap.size w' y ∧
    (∃ hi lf wt oa on oc ia nn ic, y.s = { z with hi := hi, lf := lf, wt := wt, oa := oa, on := on, oc := oc, ia := ia, nn := nn, ic := ic }) ∧ Stp hostP s s' (fun q => q = ([y.s.hi, y.s.lf, y.s.wt], bytesOf y.out, y.ms.map Mx.k))
set_option maxRecDepth 100000 in
set_option maxHeartbeats 3200000 in
theorem host_any (br bs : Nat) (s : RdS) (z : Sn) (w : World) (hb : Blk w br 52 (rdC s).toArray) (hx : Blk w bs 43 (encS z).toArray) (hm : MaxLen w) (h0 : br ≠ 0) (hs0 : bs ≠ 0) (hok : RdOk s) (hz : z.oa = none ∧ z.on = 0 ∧ z.oc = 0 ∧ z.ia = none ∧ z.nn = 0 ∧ z.ic = 0) :
    Calls Tryd.prog 27 #[.pointer (some ⟨br, 0, none⟩), .pointer (some ⟨bs, 18, none⟩)] w (HostPost br bs s z w) := by
  have HW0 : Hid (0 < w.heap.size) := Nat.lt_of_le_of_lt (Nat.zero_le _) hb.lt
  have HPO : Hid (∀ (w' : World) (s' : RdS) (y : Sx), Blk w' br 52 (rdC s').toArray → Blk w' bs 43 (encS y.s).toArray → Fr (fun j => j = br ∨ j = bs) w w' → RdOk s' → MaxLen w' → OwnX w.heap.size w' y →
    (∃ hi lf wt oa on oc ia nn ic, y.s = { z with hi := hi, lf := lf, wt := wt, oa := oa, on := on, oc := oc, ia := ia, nn := nn, ic := ic }) → Stp hostP s s' (fun q => q = ([y.s.hi, y.s.lf, y.s.wt], bytesOf y.out, y.ms.map Mx.k)) → HostPost br bs s z w (.returned (.tuple #[])) w') := fun w' s' y a1 a2 a3 a4 a5 a6 a7 a8 => ⟨rfl, s', y, a1, a2, a3, a4, a5, a6, a7, a8⟩
  have HWORD := Lib.hid (words_any br s.rest wHost s.n 5 s.bad w hb hm h0 hok.r hok.n (by decide))
  have HWLEN := Lib.hid (words_len wHost 5 s)
  have HWOK := Lib.hid (hok.words wHost 5)
  have HX := Lib.hid hx
  have HM := Lib.hid hm
  have HZ := Lib.hid hz
  have HRB := Lib.hid hb
  generalize HostPost br bs s z w = POST at *
  have hbl := hb.lt
  clear hb hx hm hok hz
  go_enter Tryd.func27, Tryd.ntmps27
  go_wp2_with (go_at_call 26; refine (HWORD.out).mono ?_)
  rintro e W1 ⟨⟨lv, rfl, hw1⟩, hr1, hg1⟩
  obtain ⟨sw, hsw⟩ : ∃ sw, sw = wordsS wHost 5 s := ⟨_, rfl⟩
  have HSTP2 : Hid (∀ {bad : Bool} {v3 : List Int} {c : Int} {x3 o : List UInt8}, sw.2[3]? = some x3 → (bad = false → sw.1.bad = false ∧ numsS (sw.2.take 3) = some v3 ∧ numsS (sw.2.drop 4) = some [c] ∧ unhexW x3 = some o ∧ 0 ≤ c) →
    (bad = true → sw.1.bad = true ∨ numsS (sw.2.take 3) = none ∨ numsS (sw.2.drop 4) = none ∨ unhexW x3 = none ∨ (numsS (sw.2.drop 4) = some [c] ∧ c < 0)) → Stp (lineP hostS) s ⟨sw.1.rest, sw.1.n, bad⟩ (fun q => q = (v3, o, c.toNat))) := by rw [hsw]; exact host_stp
  have hw1' : Wds W1 lv sw.2 := by rw [hsw]; exact hw1
  have hr1' : Blk W1 br 52 (rdC sw.1).toArray := by rw [hsw]; exact hr1
  have hlen : sw.2.length = 5 := by rw [hsw]; exact HWLEN.out
  have hok1 : RdOk sw.1 ∧ ∀ w ∈ sw.2, w.length ≤ 1000000000 := by rw [hsw]; exact HWOK.out
  clear hsw hw1 hr1 HWLEN HWOK HWORD
  obtain ⟨s1, ws⟩ := sw
  obtain ⟨wa, wb, wc, wo, wk, rfl⟩ := list5 hlen
  simp only at hw1' hr1' hok1 HSTP2
  clear hlen
  obtain ⟨lg, lo, hla, hlgl, hlcs⟩ : ∃ g o, (∃ c, 5 ≤ c ∧ lv = .slice (some ⟨g, o, none⟩) 5 c) ∧ g < W1.heap.size ∧ W1.cell? ⟨g, o + 3, none⟩ = some (strV wo) := by
    obtain ⟨a, c, rfl, h5, h6, -⟩ := hw1'.shape
    obtain ⟨g, o, rfl, hlt, hc⟩ := hw1'.row (by simp)
    exact ⟨g, o, ⟨c, h5, rfl⟩, hlt, by simpa using hc 3 wo rfl 0 _ rfl⟩
  obtain ⟨lc, hlc, rfl⟩ := hla
  have HX1 : Hid (Blk W1 bs 43 (encS z).toArray) := HX.out.fr (Fr.grown hg1) (fun e => blk_neq HX.out HRB.out (by decide) e)
  have HM1 : Hid (MaxLen W1) := HM.out.fr (Fr.grown hg1) (fun e => h0 e.symm)
  have HF1 : Hid (Fr (fun j => j = br ∨ j = bs) w W1) := Fr.mono (Fr.grown hg1) (fun j e => .inl e)
  have HR1 := Lib.hid hr1'
  have HLV1 := Lib.hid hw1'
  have HOK1 := Lib.hid hok1.1
  have HWL := Lib.hid hok1.2
  clear hg1 hr1' hw1' hok1 HX HM HRB hlgl hlcs
  go_upto_region 2 with fail
  obtain ⟨W2, hW2⟩ : ∃ W2, W2 = W1.alloc (.cells #[.int .i64 0] 3) := ⟨_, rfl⟩
  obtain ⟨b5, hb5⟩ : ∃ b5, b5 = W1.heap.size := ⟨_, rfl⟩
  have HB5 : Hid (w.heap.size ≤ b5) := by rw [hb5]; exact HF1.out.size
  have HB50 : Hid (b5 ≠ 0) := by have := HB5.out; have := HW0.out; show _ ≠ _; omega
  have HS2 : Hid (HS br bs b5 (fun j => j = br ∨ j = bs) w W2.drew s1 z 0) := by
    have hb := below1 W1 (.cells #[.int .i64 0] 3)
    rw [← hW2] at hb
    have hb := hb.drew
    exact ⟨HR1.out.keep hb, HX1.out.keep hb, by rw [hW2, hb5]; exact Blk.new' rfl, HF1.out.step (Fr.below hb) (fun j _ e => e.elim), HOK1.out, HM1.out.below hb⟩
  have HLV : Hid (Wds W2.drew (.slice (some ⟨lg, lo, none⟩) 5 lc) [wa, wb, wc, wo, wk]) := by
    have hb := below1 W1 (.cells #[.int .i64 0] 3)
    rw [← hW2] at hb
    have hb := hb.drew
    exact HLV1.out.below hb
  have HFW : Hid (∀ g o m c', Value.slice (some ⟨lg, lo, none⟩) 5 lc = .slice (some ⟨g, o, none⟩) m c' → ¬ (g = br ∨ g = bs ∨ g = b5)) := fun g o m c' e => by
    have := HS2.out.apart HLV.out (by simp) g o m c' e
    rintro (h | h | h)
    · exact this.1 h
    · exact this.2.1 h
    · exact this.2.2 h
  rw [← hW2, ← hb5]
  clear hW2 hb5 HR1 HX1 HF1 HM1 HLV1 HOK1
  refine wp_region_held_drew (S := (fun _ => True)) (by kernel_rfl) trivial (fun hHeld => ?_)
  (refine takeW (i := 0) (v := ?_) rfl (by kernel_rfl) (by kernel_rfl) (by kernel_rfl) (fun _ _ _ h => h) (by rfl) (by assumption) ?_ ?_; rotate_left; (intro W hW; (try dsimp only at hW); go_simp; try with_reducible rfl); (try simp only [Act.put, List.setIfInBounds_toArray, List.set_cons_zero, List.set_cons_succ]))
  (refine takeW (i := 1) (v := ?_) rfl (by kernel_rfl) (by kernel_rfl) (by kernel_rfl) (fun _ _ _ h => h) (by rfl) (by assumption) ?_ ?_; rotate_left; (intro W hW; (try dsimp only at hW); go_simp; try with_reducible rfl); (try simp only [Act.put, List.setIfInBounds_toArray, List.set_cons_zero, List.set_cons_succ]))
  (refine takeW (i := 2) (v := ?_) rfl (by kernel_rfl) (by kernel_rfl) (by kernel_rfl) (fun _ _ _ h => h) (by rfl) (by assumption) ?_ ?_; rotate_left; (intro W hW; (try dsimp only at hW); go_simp; try with_reducible rfl); (try simp only [Act.put, List.setIfInBounds_toArray, List.set_cons_zero, List.set_cons_succ]))
  (refine takeW (i := 3) (v := ?_) rfl (by kernel_rfl) (by kernel_rfl) (by kernel_rfl) (fun _ _ _ h => h) (by rfl) (by assumption) ?_ ?_; rotate_left; (intro W hW; (try dsimp only at hW); go_simp; try with_reducible rfl); (try simp only [Act.put, List.setIfInBounds_toArray, List.set_cons_zero, List.set_cons_succ]))
  (refine takeW (i := 4) (v := ?_) rfl (by kernel_rfl) (by kernel_rfl) (by kernel_rfl) (fun _ _ _ h => h) (by rfl) (by assumption) ?_ ?_; rotate_left; (intro W hW; (try dsimp only at hW); go_simp; try with_reducible rfl); (try simp only [Act.put, List.setIfInBounds_toArray, List.set_cons_zero, List.set_cons_succ]))
  (refine takeW (i := 5) (v := ?_) rfl (by kernel_rfl) (by kernel_rfl) (by kernel_rfl) (fun _ _ _ h => h) (by rfl) (by assumption) ?_ ?_; rotate_left; (intro W hW; (try dsimp only at hW); go_simp; try with_reducible rfl); (try simp only [Act.put, List.setIfInBounds_toArray, List.set_cons_zero, List.set_cons_succ]))
  (refine takeW (i := 6) (v := ?_) rfl (by kernel_rfl) (by kernel_rfl) (by kernel_rfl) (fun _ _ _ h => h) (by rfl) (by assumption) ?_ ?_; rotate_left; (intro W hW; (try dsimp only at hW); go_simp; try with_reducible rfl); (try simp only [Act.put, List.setIfInBounds_toArray, List.set_cons_zero, List.set_cons_succ]))
  (refine takeW (i := 7) (v := ?_) rfl (by kernel_rfl) (by kernel_rfl) (by kernel_rfl) (fun _ _ _ h => h) (by rfl) (by assumption) ?_ ?_; rotate_left; (intro W hW; (try dsimp only at hW); go_simp; try with_reducible rfl); (try simp only [Act.put, List.setIfInBounds_toArray, List.set_cons_zero, List.set_cons_succ]))
  (refine takeW (i := 8) (v := ?_) rfl (by kernel_rfl) (by kernel_rfl) (by kernel_rfl) (fun _ _ _ h => h) (by rfl) (by assumption) ?_ ?_; rotate_left; (intro W hW; (try dsimp only at hW); go_simp; try with_reducible rfl); (try simp only [Act.put, List.setIfInBounds_toArray, List.set_cons_zero, List.set_cons_succ]))
  (refine takeW (i := 9) (v := ?_) rfl (by kernel_rfl) (by kernel_rfl) (by kernel_rfl) (fun _ _ _ h => h) (by rfl) (by assumption) ?_ ?_; rotate_left; (intro W hW; (try dsimp only at hW); go_simp; try with_reducible rfl); (try simp only [Act.put, List.setIfInBounds_toArray, List.set_cons_zero, List.set_cons_succ]))
  (refine takeW (i := 10) (v := ?_) rfl (by kernel_rfl) (by kernel_rfl) (by kernel_rfl) (fun _ _ _ h => h) (by rfl) (by assumption) ?_ ?_; rotate_left; (intro W hW; (try dsimp only at hW); go_simp; try with_reducible rfl); (try simp only [Act.put, List.setIfInBounds_toArray, List.set_cons_zero, List.set_cons_succ]))
  refine takeE (i := 11) rfl (by kernel_rfl) (by rfl) (exec_pS3 rfl rfl rfl rfl) ?_
  rintro va W3 ⟨hva, hra, hb3, hl3⟩
  have HS3 := Lib.hid (HS2.out.below hb3)
  have HLV3 := Lib.hid (HLV.out.below hb3)
  have HN3 := Lib.hid (HS3.out.nums (Or.inl rfl) (fun _ => Or.inr rfl) HB5.out h0 hs0 HB50.out HLV3.out (fun g o m c e => by have := HFW.out g o m c e; simp only [not_or] at this; exact this) hra hva ⟨(Nat.ne_of_gt HS2.out.rd.lt), (Nat.ne_of_gt HS2.out.sn.lt), (Nat.ne_of_gt HS2.out.one.lt)⟩ (by simp only [List.mem_cons, List.not_mem_nil, or_false, forall_eq_or_imp, forall_eq]; exact ⟨.inl ⟨18, rfl, by unfold numAt; omega⟩, .inl ⟨21, rfl, by unfold numAt; omega⟩, .inl ⟨22, rfl, by unfold numAt; omega⟩⟩) (by simp) HWL.out)
  clear hva hra hb3 hl3 hHeld
  refine ⟨trivial, ?_⟩
  (try simp only [Act.put, List.setIfInBounds_toArray, List.set_cons_zero, List.set_cons_succ])
  refine takeC (i := 12) rfl (by kernel_rfl) (by rfl) (fun K hK => ?_)
  go_simp
  refine (HN3.out).mono ?_
  rintro e W4 ⟨rfl, b3, v3, hs4, hb30, hb31, hk4⟩
  have HS4 := Lib.hid hs4
  have HLV4 := Lib.hid (Rd.frs HLV3.out hk4 HFW.out)
  have HB30 := Lib.hid hb30
  have HB31 := Lib.hid hb31
  clear hs4 hk4 hb30 hb31 HN3 HS3 HLV3 HS2 HLV
  refine hK.out _ _ (trivial) (fun hHeld => ?_)
  clear hK K
  (try simp only [Act.put, List.setIfInBounds_toArray, List.set_cons_zero, List.set_cons_succ])
  refine wpAnyH_done (by kernel_rfl) ?_ _
  clear hHeld
  obtain ⟨hi, lf, wt, hput, hv3⟩ := put3 bs z v3
  have hone : oneL b5 0 (([⟨bs, 18, none⟩, ⟨bs, 21, none⟩, ⟨bs, 22, none⟩] : List Addr).zip v3) = 0 := oneL_far fun p hp e => by
    have h1 := (List.of_mem_zip hp).1
    have h2 : p.1.block = bs := by simp at h1; rcases h1 with h | h | h <;> rw [h]
    exact blk_neq HS4.out.sn HS4.out.one (by decide) (h2.symm.trans e)
  obtain ⟨z1, hz1⟩ : ∃ z1 : Sn, z1 = { z with hi := hi, lf := lf, wt := wt } := ⟨_, rfl⟩
  have HS4' : Hid (HS br bs b5 (fun j => j = br ∨ j = bs) w W4 ⟨s1.rest, s1.n, b3⟩ z1 0) := by have := HS4.out; rw [hput, hone, ← hz1] at this; exact this
  have HV3 : Hid (b3 = false → v3 = [hi, lf, wt]) := fun e => by
    obtain ⟨x, y, u, e1, _⟩ := numsS_three (HB30.out e).2
    obtain ⟨rfl, rfl, rfl⟩ := hv3 _ _ _ e1
    exact e1
  have HZ1 := Lib.hid hz1
  have HZN : Hid ({ z1 with oa := none, on := 0, oc := 0 } = z1) := by
    show _ = _
    have hz := HZ.out
    exact sn_noout z1 (by rw [hz1]; exact hz.1) (by rw [hz1]; exact hz.2.1) (by rw [hz1]; exact hz.2.2.1)
  have HZI : Hid (z1.ia = none ∧ z1.nn = 0 ∧ z1.ic = 0) := by rw [hz1]; exact HZ.out.2.2.2
  clear hput hone hv3 hz1 HS4
  have HS4 := HS4'
  clear HS4'
  go_wp2_with (first | ((with_reducible show wpList _ _ _ (Oper.mk (some 26) _ _ _ _ _ :: _) _ _); refine wpList_val rfl (exec_tailS 4 (by omega) hlc (by omega) rfl rfl) ?_) | ((with_reducible show wpList _ _ _ (Oper.mk (some 27) _ _ _ _ _ :: _) _ _); refine wpList_ex rfl (exec_pS1 rfl rfl) ?_; rintro va W5 ⟨hva, hra, hb5, hl5⟩; have HVA := Lib.hid hva; have HRA := Lib.hid hra; have HS5 := Lib.hid (HS4.out.below hb5); have HLV5 := Lib.hid (HLV4.out.below hb5); clear hva hra hb5 hl5))
  refine (HS5.out.nums (Or.inl rfl) (fun _ => Or.inr rfl) HB5.out h0 hs0 HB50.out (lv := .slice (some ⟨lg, lo + 4, none⟩) 1 (lc - 4)) (ws := [wk]) (wds_tail HLV5.out hlc) (fun g o m c e => ?_) HRA.out HVA.out ⟨Nat.ne_of_gt HS4.out.rd.lt, Nat.ne_of_gt HS4.out.sn.lt, Nat.ne_of_gt HS4.out.one.lt⟩ (fun a ha => .inr (by simpa using ha)) (by simp) (fun x hx => HWL.out x (by simp at hx; simp [hx]))).mono ?_
  · simp only [Value.slice.injEq, Option.some.injEq, Addr.mk.injEq, and_true] at e
    have := HFW.out lg lo 5 lc rfl
    obtain ⟨⟨rfl, _⟩, _⟩ := e
    simp only [not_or] at this
    exact this
  rintro e W6 ⟨rfl, b4, v1, hs6, hb40, hb41, hk6⟩
  obtain ⟨c, hc1, hc2⟩ := one1 b5 0 v1
  have hputf : putL bs z1 (([⟨b5, 0, none⟩] : List Addr).zip v1) = z1 := putL_far fun p hp e => by
    have h1 := (List.of_mem_zip hp).1
    have h2 : p.1.block = b5 := by simp at h1; rw [h1]
    exact blk_neq hs6.sn hs6.one (by decide) (e.symm.trans h2)
  have HS6 : Hid (HS br bs b5 (fun j => j = br ∨ j = bs) w W6 ⟨s1.rest, s1.n, b4⟩ z1 c) := by have := hs6; rw [hputf, hc1] at this; exact this
  have HB40 : Hid (b4 = false → b3 = false ∧ numsS [wk] = some [c]) := fun e => by
    obtain ⟨e1, e2⟩ := hb40 e
    refine ⟨e1, ?_⟩
    have e3 : numsS [wk] = some v1 := e2
    have e4 := numsS_len e3
    match v1, e4 with
    | [a], _ => rw [e3, hc2 a rfl]
  have HB41 : Hid (b4 = true → b3 = true ∨ numsS [wk] = none) := hb41
  have HC3 : Hid (W6.cell? ⟨lg, lo + 3, none⟩ = some (strV wo)) := by
    have h1 := Rd.frs HLV5.out hk6 HFW.out
    obtain ⟨g, o, e, hlt, hc⟩ := h1.row (by simp)
    simp only [Option.some.injEq, Addr.mk.injEq, and_true] at e
    obtain ⟨rfl, rfl⟩ := e
    show _ = _
    simpa using hc 3 wo rfl 0 _ rfl
  clear hs6 hb40 hb41 hk6 hc1 hc2 hputf HS5 HS4 HLV5 HLV4 HVA HRA HFW
  have d2 : W6.cell? ⟨br, 2, none⟩ = some (.bool b4) := HS6.out.rd.list0 rfl
  go_upto_if 33 with fail
  go_cut [39] from 34 to 41 (fun _ wx => ∃ (bad5 : Bool) (out : List Int) (oa : Option Addr) (oc : Nat), Hid (HS br bs b5 (fun j => j = br ∨ j = bs) w wx ⟨s1.rest, s1.n, bad5⟩ { z1 with oa := oa, on := out.length, oc := oc } c) ∧ Hid (OwnX w.heap.size wx ⟨{ z1 with oa := oa, on := out.length, oc := oc }, out, []⟩) ∧ Hid (bad5 = false → b4 = false ∧ unhexW wo = some (bytesOf out)) ∧ Hid (bad5 = true → b4 = true ∨ unhexW wo = none))
  case first =>
    cases b4 with
    | true =>
      go_wp2_with fail
      go_meet
      refine ⟨true, [], none, 0, ?_, ?_, Lib.hid (fun e => by cases e), Lib.hid (fun _ => .inl (by first | rfl | trivial))⟩
      · show HS _ _ _ _ _ _ _ { z1 with oa := none, on := 0, oc := 0 } _
        rw [HZN.out]; exact HS6.out
      · exact ⟨⟨by simp, .inl ⟨rfl, rfl⟩⟩, by simp, own_nil3 HZI.out.1 HZI.out.2.1 HZI.out.2.2, by simp⟩
    | false =>
      go_wp2_with ((with_reducible show wpList _ _ _ (Oper.mk (some 38) _ _ _ _ _ :: _) _ _); refine wpList_val rfl (exec_loadStr (v := strV wo) rfl rfl HC3.out) ?_)
      refine (rbytes_any br s1.rest wo s1.n W6 HS6.out.rd (HWL.out wo (by simp))).mono ?_
      rintro e W7 ⟨v, rfl, q1, q2, hr7, hg7⟩
      obtain ⟨oa, oc, out, rfl, ho, hob, hov⟩ := bytes_out (B' := w.heap.size) HS6.out.fr.size q1 q2
      have HS7 := Lib.hid (HS6.out.grown hg7 (Or.inl rfl) h0 hr7 (HS6.out.ok.set (fun _ => rfl)))
      have HO7 := Lib.hid ho
      have HOB := Lib.hid hob
      have HOV := Lib.hid hov
      have e19 : W7.cell? ⟨bs, 19, none⟩ = some (.slice z1.oa z1.on z1.oc) := HS7.out.sn.list0 rfl
      have f19 : W7.frozen? ⟨bs, 19, none⟩ = false := HS7.out.sn.frozen 19
      clear q1 q2 hr7 hg7 ho hob hov d2
      go_wp2_with fail
      go_meet
      refine ⟨(unhexW wo).isNone, out, oa, oc, Lib.hid (HS7.out.setOut (fun _ => Or.inr rfl) hs0 oa out.length oc), ?_, ?_, ?_⟩
      · exact ⟨own_fr HO7.out (Fr.setCell _ _ _) (fun g hg e => own_apart HO7.out HS7.out.sn (by decide) g hg e), HOB.out, own_nil3 HZI.out.1 HZI.out.2.1 HZI.out.2.2, by simp⟩
      · intro e
        refine ⟨by first | rfl | trivial, ?_⟩
        cases hu : unhexW wo with
        | none => rw [hu] at e; cases e
        | some b => rw [HOV.out b hu]
      · intro e
        cases hu : unhexW wo with
        | none => exact .inr rfl
        | some b => rw [hu] at e; cases e
  case rest =>
    rename World => W8
    obtain ⟨bad5, out, oa, oc, HS8, HO8, HB50, HB51⟩ := hcut
    clear HS6 HC3 d2 HZN
    obtain ⟨z2, hz2⟩ : ∃ z2 : Sn, z2 = { z1 with oa := oa, on := out.length, oc := oc } := ⟨_, rfl⟩
    rw [← hz2] at HS8 HO8
    have HZ2 := Lib.hid hz2
    clear hz2
    have d5 : W8.cell? ⟨b5, 0, none⟩ = some (.int .i64 c) := HS8.out.one.cell 0
    have d2 : W8.cell? ⟨br, 2, none⟩ = some (.bool bad5) := HS8.out.rd.list0 rfl
    have f2 : W8.frozen? ⟨br, 2, none⟩ = false := HS8.out.rd.frozen 2
    go_upto_if 43 with fail
    go_cut [45] from 44 to 46 (fun _ wx => ∃ b6 : Bool, Hid (HS br bs b5 (fun j => j = br ∨ j = bs) w wx ⟨s1.rest, s1.n, b6⟩ z2 c) ∧ Hid (OwnX w.heap.size wx ⟨z2, out, []⟩) ∧ Hid (b6 = false → bad5 = false ∧ 0 ≤ c) ∧ Hid (b6 = true → bad5 = true ∨ c < 0))
    case first =>
      by_cases hc : c < 0
      · go_wp2_with fail
        go_meet
        exact ⟨true, HS8.out.setBad (Or.inl rfl) h0, HO8.out.fr (Fr.setCell _ _ _) (fun j e => blkF HS8.out.rd (by decide) (by decide) e), Lib.hid (fun e => by cases e), Lib.hid (fun _ => .inr hc)⟩
      · go_wp2_with fail
        go_meet
        exact ⟨bad5, HS8, HO8, Lib.hid (fun e => ⟨e, by omega⟩), Lib.hid (fun e => .inl e)⟩
    case rest =>
      rename World => W9
      obtain ⟨b6, HS9, HO9, HB60, HB61⟩ := hcut
      have HALL : Hid (b6 = false → s1.bad = false ∧ b3 = false ∧ numsS [wa, wb, wc] = some v3 ∧ numsS [wk] = some [c] ∧ unhexW wo = some (bytesOf out) ∧ 0 ≤ c) := fun e => by
        obtain ⟨e1, e2⟩ := HB60.out e
        obtain ⟨e3, e4⟩ := HB50.out e1
        obtain ⟨e5, e6⟩ := HB40.out e3
        obtain ⟨e7, e8⟩ := HB30.out e5
        exact ⟨e7, e5, e8, e6, e4, e2⟩
      have HST : Hid (Stp (lineP hostS) s ⟨s1.rest, s1.n, b6⟩ (fun q => q = (v3, bytesOf out, c.toNat))) := HSTP2.out (x3 := wo) rfl (fun e => by
        obtain ⟨e1, _, e2, e3, e4, e5⟩ := HALL.out e
        exact ⟨e1, e2, e3, e4, e5⟩) (fun e => by
        have h4 : b4 = true → s1.bad = true ∨ numsS [wa, wb, wc] = none ∨ numsS [wk] = none := fun e => by
          rcases HB41.out e with e | e
          · rcases HB31.out e with e | e
            · exact .inl e
            · exact .inr (.inl e)
          · exact .inr (.inr e)
        have h5 : b4 = true → s1.bad = true ∨ numsS [wa, wb, wc] = none ∨ numsS [wk] = none ∨ unhexW wo = none ∨ (numsS [wk] = some [c] ∧ c < 0) := fun e => by
          rcases h4 e with e | e | e
          · exact .inl e
          · exact .inr (.inl e)
          · exact .inr (.inr (.inl e))
        rcases HB61.out e with e | e
        · rcases HB51.out e with e | e
          · exact h5 e
          · exact .inr (.inr (.inr (.inl e)))
        · cases hb4 : b4 with
          | true => exact h5 hb4
          | false => exact .inr (.inr (.inr (.inr ⟨(HB40.out hb4).2, e⟩))))
      have HCI : Hid (b6 = false → c ≤ 9223372036854775807) := fun e => ((numsS_iff.1 (HALL.out e).2.2.2.1).2 c (by simp)).2
      have HV : Hid (b6 = false → v3 = [hi, lf, wt]) := fun e => HV3.out (HALL.out e).2.1
      have HC0 : Hid (b6 = false → 0 ≤ c) := fun e => (HB60.out e).2
      have HI2 : Hid (z2.ia = none ∧ z2.nn = 0 ∧ z2.ic = 0) := by rw [HZ2.out]; exact HZI.out
      clear HSTP2 HWL HB30 HB31 HB40 HB41 HB50 HB51 HB60 HB61 HALL HS8 HO8 d5 d2 f2 HZI HV3
      have HFIN : Hid (∀ (X : World) (k : Nat) (sk : RdS) (yk : Sx), LpS br bs b5 (fun j => j = br ∨ j = bs) w X ⟨s1.rest, s1.n, b6⟩ z2 c out k sk yk → (sk.bad = false → (k : Int) = c) → POST (.returned (.tuple #[])) X) := fun X k sk yk h hk => by
        obtain ⟨ia, nn, ic, e⟩ := h.same
        refine HPO.out X sk yk h.hs.rd h.hs.sn h.hs.fr h.hs.ok h.hs.ml h.own ⟨hi, lf, wt, oa, out.length, oc, ia, nn, ic, by rw [e, HZ2.out, HZ1.out]⟩ ((h.stp hk HST.out).mono fun e2 q hq => ?_)
        have := HV.out (h.good e2).1
        rw [hq, this, h.outE, e, HZ2.out, HZ1.out]
      have HOKS : Hid (s1.rest.length ≤ 1000000000) := HS9.out.ok.r
      have HL0 : Hid (LpS br bs b5 (fun j => j = br ∨ j = bs) w W9 ⟨s1.rest, s1.n, b6⟩ z2 c out 0 ⟨s1.rest, s1.n, b6⟩ ⟨z2, out, []⟩) :=
        ⟨HS9.out, ⟨z2.ia, z2.nn, z2.ic, rfl⟩, rfl, HO9.out, fun e => ⟨e, by simp [insP]⟩, fun e => .inl ⟨e, rfl⟩⟩
      clear HS9 HO9
      go_wp2
      go_loopw [6] (fun i wr => ∃ (k : Nat) (sk : RdS) (yk : Sx), i = .int .i64 k ∧ Hid (LpS br bs b5 (fun j => j = br ∨ j = bs) w wr ⟨s1.rest, s1.n, b6⟩ z2 c out k sk yk) ∧ Hid (sk.bad = false → (k : Int) ≤ c)) (fun i _ => c.toNat - (intOf i).toNat)
      case atStart => exact ⟨0, _, _, rfl, HL0, HC0⟩
      case round =>
        clear HL0
        obtain ⟨k, sk, yk, rfl, HL, HK⟩ := hrel
        obtain ⟨wo', rfl⟩ : ∃ wo' : World, wo' = wr := ⟨_, rfl⟩
        have d5 : wo'.cell? ⟨b5, 0, none⟩ = some (.int .i64 c) := HL.out.hs.one.cell 0
        obtain ⟨rk, nk, bk⟩ := sk
        have d2 : wo'.cell? ⟨br, 2, none⟩ = some (.bool bk) := HL.out.hs.rd.list0 rfl
        by_cases hlt : (k : Int) < c
        · cases bk with
          | true =>
            go_wp2_with fail
            go_end0
            exact HFIN.out _ _ _ _ HL.out (fun e => by cases e)
          | false =>
            have hc63 : c ≤ 9223372036854775807 := HCI.out (HL.out.good rfl).1
            have HKL : Hid (yk.ms.length ≤ 1000000000) := by
              have h1 := ins_le (HL.out.good rfl).2
              have h2 := HOKS.out
              rw [List.length_map] at h1
              exact Nat.le_trans h1 h2
            go_upto_region 12 with fail
            obtain ⟨w7, hw7⟩ : ∃ w7, w7 = wo'.alloc (.cells #[.slice none 0 0, .int .i64 0] 49) := ⟨_, rfl⟩
            obtain ⟨b7, hb7⟩ : ∃ b7, b7 = wo'.heap.size := ⟨_, rfl⟩
            have hbel := below1 wo' (.cells #[.slice none 0 0, .int .i64 0] 49)
            rw [← hw7] at hbel
            have HS7 := Lib.hid (HL.out.hs.below hbel)
            have HON7 := Lib.hid (HL.out.own.below hbel)
            have HB77 : Hid (Blk w7 b7 49 #[.slice none 0 0, .int .i64 0]) := by rw [hw7, hb7]; exact Blk.new' rfl
            have HRN : Hid (¬ (Value.slice yk.s.ia yk.s.nn yk.s.ic).ownBlock = some b7) := fun e => by
              have := (HL.out.own.inn.lt b7 e).2
              omega
            have HB7W : Hid (w.heap.size ≤ b7) := by rw [hb7]; exact HL.out.hs.fr.size
            have HB70 : Hid (b7 ≠ 0) := by have := HB7W.out; have := HW0.out; show _ ≠ _; omega
            rw [← hw7, ← hb7]
            clear hw7 hb7 hbel d5 d2
            have HWORD2 := Lib.hid (words_any br rk wIn nk 2 false w7 HS7.out.rd HS7.out.ml h0 HS7.out.ok.r HS7.out.ok.n (by decide))
            go_wp2_with fail
            refine (HWORD2.out).mono ?_
            rintro e w8 ⟨⟨lv2, rfl, hw8⟩, hr8, hg8⟩
            clear HWORD2
            obtain ⟨sw, hsw⟩ : ∃ sw, sw = wordsS wIn 2 ⟨rk, nk, false⟩ := ⟨_, rfl⟩
            have HSTI0 : Hid (∀ {bad : Bool} {age : Int} {x1 d : List UInt8}, sw.2[1]? = some x1 → (bad = false → sw.1.bad = false ∧ numsS (sw.2.take 1) = some [age] ∧ unhexW x1 = some d) →
              (bad = true → sw.1.bad = true ∨ numsS (sw.2.take 1) = none ∨ unhexW x1 = none) → Stp (lineP inS) ⟨rk, nk, false⟩ ⟨sw.1.rest, sw.1.n, bad⟩ (fun q => q = (age, d))) := by rw [hsw]; exact in_stp
            have hw8' : Wds w8 lv2 sw.2 := by rw [hsw]; exact hw8
            have hr8' : Blk w8 br 52 (rdC sw.1).toArray := by rw [hsw]; exact hr8
            have hlen : sw.2.length = 2 := by rw [hsw]; exact words_len _ _ _
            have hok1 : RdOk sw.1 ∧ ∀ w ∈ sw.2, w.length ≤ 1000000000 := by rw [hsw]; exact HS7.out.ok.words wIn 2
            clear hsw hw8 hr8
            obtain ⟨s2, ws⟩ := sw
            obtain ⟨we, wd, rfl⟩ := list2 hlen
            simp only at hw8' hr8' hok1 HSTI0
            clear hlen
            obtain ⟨g2, o2, c2, h2c, rfl⟩ : ∃ g o c, 2 ≤ c ∧ lv2 = .slice (some ⟨g, o, none⟩) 2 c := by
              obtain ⟨a, c, rfl, h5, h6, -⟩ := hw8'.shape
              obtain ⟨g, o, rfl, hlt, hc⟩ := hw8'.row (by simp)
              exact ⟨g, o, c, h5, rfl⟩
            have HS8 := Lib.hid (HS7.out.grown hg8 (Or.inl rfl) h0 hr8' hok1.1)
            have HB78 := Lib.hid (HB77.out.fr (Fr.grown hg8) (fun e => blk_neq HB77.out HS7.out.rd (by decide) e))
            have HON8 := Lib.hid (HON7.out.fr (Fr.grown hg8) (fun j e => blkF HS7.out.rd (by decide) (by decide) e))
            have HLV8 := Lib.hid hw8'
            have HWL2 := Lib.hid hok1.2
            have HFW8 : Hid (∀ g o m c', Value.slice (some ⟨g2, o2, none⟩) 2 c2 = .slice (some ⟨g, o, none⟩) m c' → g ≠ br ∧ g ≠ b7) := fun g o m c' e =>
              ⟨(HS8.out.apart HLV8.out (by simp) g o m c' e).1, wds_apart HLV8.out e (by simp) (cs := [.slice none 0 0, .int .i64 0]) HB78.out (box_apart _ _ _ _)⟩
            clear hg8 hr8' hw8' hok1 HS7 HB77 HON7
            go_wp2_with ((with_reducible show wpList _ _ _ (Oper.mk (some 64) _ _ _ _ _ :: _) _ _); refine wpList_ex rfl (exec_pS1 rfl rfl) ?_; rintro va W9 ⟨hva, hra, hb9, hl9⟩; have HVA := Lib.hid hva; have HRA := Lib.hid hra; have HS9 := Lib.hid (HS8.out.below hb9); have HLV9 := Lib.hid (HLV8.out.below hb9); have HB79 := Lib.hid (HB78.out.keep hb9); have HON9 := Lib.hid (HON8.out.below hb9); clear hva hra hb9 hl9)
            refine (HS9.out.nums7 (Or.inl rfl) HB7W.out h0 HB70.out HB79.out HLV9.out HFW8.out HRA.out HVA.out ⟨Nat.ne_of_gt HS8.out.rd.lt, Nat.ne_of_gt HB78.out.lt⟩ (by simp) HWL2.out).mono ?_
            rintro e w10 ⟨rfl, b8, age, hs10, hb10, hb80, hb81, hk10⟩
            have HS10 := Lib.hid hs10
            have HB710 := Lib.hid hb10
            have HB80 := Lib.hid hb80
            have HB81 := Lib.hid hb81
            have HON10 := Lib.hid (HON9.out.fr7 hk10 (fun j e => e) HS9.out.rd HB79.out HRN.out)
            have HC7 : Hid (w10.cell? ⟨g2, o2 + 1, none⟩ = some (strV wd)) := by
              have h1 := Rd.frs HLV9.out hk10 (fun g o n c e => by have := HFW8.out g o n c e; rintro (h | h); exact this.1 h; exact this.2 h)
              obtain ⟨g, o, e, hlt, hc⟩ := h1.row (by simp)
              simp only [Option.some.injEq, Addr.mk.injEq, and_true] at e
              obtain ⟨rfl, rfl⟩ := e
              show _ = _
              simpa using hc 1 wd rfl 0 _ rfl
            have d2 : w10.cell? ⟨br, 2, none⟩ = some (.bool b8) := HS10.out.rd.list0 rfl
            clear hs10 hb10 hb80 hb81 hk10 HS9 HB79 HON9 HLV9 HLV8 HS8 HB78 HON8 HFW8 HVA HRA
            go_upto_if 70 with fail
            go_cut [75] from 71 to 76 (fun _ wx => ∃ (b9 : Bool) (m : Mx), Hid (HS br bs b5 (fun j => j = br ∨ j = bs) w wx ⟨s2.rest, s2.n, b9⟩ yk.s c) ∧ Hid (OwnX w.heap.size wx yk) ∧ Hid (Blk wx b7 49 (encMx m).toArray) ∧
              Hid (wx.ownsRow w.heap.size 5 1 m.d.v m.d.l.length (m.d.l.map (Value.int .u8)) ∧ (∀ c ∈ m.d.l, 0 ≤ c ∧ c ≤ 255)) ∧ Hid (Stp (lineP inS) ⟨rk, nk, false⟩ ⟨s2.rest, s2.n, b9⟩ (fun q => q = m.k)))
            case first =>
              cases b8 with
              | true =>
                go_wp2_with fail
                go_meet
                refine ⟨true, ⟨⟨none, 0, []⟩, age⟩, HS10, HON10, HB710, Lib.hid ⟨⟨by simp, .inl ⟨rfl, rfl⟩⟩, by simp⟩, Lib.hid (HSTI0.out rfl (fun e => by cases e) (fun _ => ?_))⟩
                rcases HB81.out (by first | rfl | trivial) with h | h
                · exact .inl h
                · exact .inr (.inl h)
              | false =>
                go_wp2_with ((with_reducible show wpList _ _ _ (Oper.mk (some 74) _ _ _ _ _ :: _) _ _); refine wpList_val rfl (exec_loadStr (v := strV wd) rfl rfl HC7.out) ?_)
                refine (rbytes_any br s2.rest wd s2.n w10 HS10.out.rd (HWL2.out wd (by simp))).mono ?_
                rintro e W11 ⟨v, rfl, q1, q2, hr11, hg11⟩
                obtain ⟨da, dc, dl, rfl, ho, hob, hov⟩ := bytes_out (B' := w.heap.size) HS10.out.fr.size q1 q2
                have HS11 := Lib.hid (HS10.out.grown hg11 (Or.inl rfl) h0 hr11 (HS10.out.ok.set (fun _ => rfl)))
                have HON11 := Lib.hid (HON10.out.fr7 (Fr.grown hg11) (fun j e => .inl e) HS10.out.rd HB710.out HRN.out)
                have HB711 : Hid (Blk W11 b7 49 #[.slice none 0 0, .int .i64 age]) := HB710.out.fr (Fr.grown hg11) (fun e => blk_neq HB710.out HS10.out.rd (by decide) e)
                have HO11 := Lib.hid ho
                have HOB := Lib.hid hob
                have HOV := Lib.hid hov
                have e70 : W11.cell? ⟨b7, 0, none⟩ = some (.slice none 0 0) := HB711.out.cell 0
                have f70 : W11.frozen? ⟨b7, 0, none⟩ = false := HB711.out.frozen 0
                clear q1 q2 hr11 hg11 ho hob hov d2
                go_wp2_with fail
                go_meet
                refine ⟨(unhexW wd).isNone, ⟨⟨da, dc, dl⟩, age⟩, ?_, Lib.hid (HON11.out.fr7 (Fr.setCell _ _ _) (fun j e => .inr e) HS11.out.rd HB711.out HRN.out), ?_, ?_, ?_⟩
                · exact Lib.hid (HS11.out.fr' (Fr.setCell _ _ _) (fun j hj e => by have := HB7W.out; have e' : j = b7 := e; omega) (fun e => blk_neq HS11.out.sn HB711.out (by decide) e) (fun e => blk_neq HS11.out.one HB711.out (by decide) e) (fun e => HB70.out e.symm) (HS11.out.rd.far (blk_neq HS11.out.rd HB711.out (by decide)) _) HS11.out.ok)
                · have := HB711.out.set 0 (.slice da dl.length dc)
                  exact this
                · exact ⟨own_fr HO11.out (Fr.setCell _ _ _) (fun g hg e => own_apart HO11.out HB711.out (by decide) g hg e), HOB.out⟩
                · cases hu : unhexW wd with
                  | none => exact Lib.hid (HSTI0.out rfl (fun e => by cases e) (fun _ => .inr (.inr hu)))
                  | some b =>
                    refine Lib.hid (HSTI0.out rfl (fun _ => ⟨(HB80.out (by first | rfl | trivial)).1, (HB80.out (by first | rfl | trivial)).2, ?_⟩) (fun e => by cases e))
                    rw [hu, HOV.out b hu]
            case rest =>
              rename World => WC
              obtain ⟨b9, m, HSC0, HOC0, HB7C0, HMD0, HSTI⟩ := hcut
              have HSC := Lib.hid HSC0.out.drew
              have HOC : Hid (OwnX w.heap.size WC.drew yk) := HOC0.out.below (Below.refl _ WC).drew
              have HB7C : Hid (Blk WC.drew b7 49 (encMx m).toArray) := HB7C0
              have HMD : Hid (WC.drew.ownsRow w.heap.size 5 1 m.d.v m.d.l.length (m.d.l.map (Value.int .u8)) ∧ (∀ c ∈ m.d.l, 0 ≤ c ∧ c ≤ 255)) := HMD0
              have HWC : Hid (w.heap.size ≤ WC.drew.heap.size) := HSC.out.fr.size
              have HOWI : Hid ((WC.drew.alloc (.cells (encMx m).toArray 49)).ownsRow w.heap.size 49 2 (.slice yk.s.ia yk.s.nn yk.s.ic) yk.ms.length (yk.ms.flatMap encMx)) := ow_below HOC.out.inn (below1 _ _)
              have H7S : Hid (b7 ≠ bs) := blk_neq HB7C.out HSC.out.sn (by decide)
              clear HSC0 HOC0 HB7C0 HMD0 HS10 HB710 HB80 HB81 HON10 HC7 d2 HSTI0 HWL2
              go_upto_region 16 with fail
              refine wp_region_held_drew (S := (fun X => Blk X b7 49 (encMx m).toArray)) (by kernel_rfl) HB7C.out (fun hHeld => ?_)
              (refine takeW (i := 0) (v := ?_) rfl (by kernel_rfl) (by kernel_rfl) (by kernel_rfl) (fun _ _ _ h => h) (by rfl) (by assumption) ?_ ?_; rotate_left; (intro W hW; (try dsimp only at hW); go_simp; try with_reducible rfl); (try simp only [Act.put, List.setIfInBounds_toArray, List.set_cons_zero, List.set_cons_succ]))
              (refine takeW (i := 1) (v := ?_) rfl (by kernel_rfl) (by kernel_rfl) (by kernel_rfl) (fun _ _ _ h => h) (by rfl) (by assumption) ?_ ?_; rotate_left; (intro W hW; (try dsimp only at hW); go_simp; try with_reducible rfl); (try simp only [Act.put, List.setIfInBounds_toArray, List.set_cons_zero, List.set_cons_succ]))
              (refine takeW (i := 2) (v := ?_) rfl (by kernel_rfl) (by kernel_rfl) (by kernel_rfl) (fun _ _ _ h => h) (by rfl) (by assumption) ?_ ?_; rotate_left; (intro W hW; (try dsimp only at hW); go_simp; try with_reducible rfl); (try simp only [Act.put, List.setIfInBounds_toArray, List.set_cons_zero, List.set_cons_succ]))
              (refine takeW (i := 3) (v := ?_) rfl (by kernel_rfl) (by kernel_rfl) (by kernel_rfl) (fun _ _ _ h => h) (by rfl) (by assumption) ?_ ?_; rotate_left; (intro W hW; (try dsimp only at hW); go_simp; try with_reducible rfl); (try simp only [Act.put, List.setIfInBounds_toArray, List.set_cons_zero, List.set_cons_succ]))
              (refine takeW (i := 5) rfl (by kernel_rfl) (by kernel_rfl) (by kernel_rfl) (fun _ _ _ h => h) (by rfl) (by assumption) (fun W hW => exec_loadW W60 rfl rfl rfl (Blk.list hW)) ?_; (try simp only [Act.put, List.setIfInBounds_toArray, List.set_cons_zero, List.set_cons_succ]))
              refine takeV2 (i := 4) (j := 6) rfl rfl (by kernel_rfl) (by rfl) (by rfl) (exec_load1 (v := .slice yk.s.ia yk.s.nn yk.s.ic) F37 rfl rfl (HSC.out.sn.list0 rfl)) HB7C.out (exec_sliceW E37 (by decide) rfl rfl rfl) (HB7C.out.alloc _) ?_ ?_
              all_goals clear hHeld
              · (try simp only [Act.put, List.setIfInBounds_toArray, List.set_cons_zero, List.set_cons_succ])
                refine takeV (i := 6) rfl (by kernel_rfl) (by rfl) (exec_sliceW E37 (by decide) rfl rfl rfl) (HB7C.out.alloc _) ?_
                (try simp only [Act.put, List.setIfInBounds_toArray, List.set_cons_zero, List.set_cons_succ])
                refine takeApp (i := 7) (m := 1) E37 rfl (by kernel_rfl) (by rfl) rfl (HOWI.out) (news := encMx m) rfl (news_wide _ _ _) (encM_one _) rfl rfl (by have := HKL.out; omega) (by have := HWC.out; simp at this ⊢; omega) ?_
                intro v9 W9 ho9 hg9 hpl
                obtain ⟨a9, c9, rfl, -⟩ := owns_shape ho9
                have HS9 : Hid (HS br bs b5 (fun j => j = br ∨ j = bs) w W9 ⟨s2.rest, s2.n, b9⟩ yk.s c) := (HSC.out.below (below1 _ _)).app HOWI.out hg9 HW0.out
                have HO9 := Lib.hid ho9
                have HG9 := Lib.hid hg9
                have HB9 : Hid (Blk W9 b7 49 (encMx m).toArray) := (HB7C.out.alloc _).fr (Fr.grownO hg9) HRN.out
                clear ho9 hg9 hpl
                refine ⟨HB9.out, ?_⟩
                (try simp only [Act.put, List.setIfInBounds_toArray, List.set_cons_zero, List.set_cons_succ])
                have hHeld : (fun X => Blk X b7 49 (encMx m).toArray) W9 := HB9.out
                (refine takeW (i := 8) (v := ?_) rfl (by kernel_rfl) (by kernel_rfl) (by kernel_rfl) (fun _ _ _ h => h) (by rfl) (by assumption) ?_ ?_; rotate_left; (intro W hW; (try dsimp only at hW); go_simp; try with_reducible rfl); (try simp only [Act.put, List.setIfInBounds_toArray, List.set_cons_zero, List.set_cons_succ]))
                (refine takeW (i := 9) (v := ?_) rfl (by kernel_rfl) (by kernel_rfl) (by kernel_rfl) (fun _ _ _ h => h) (by rfl) (by assumption) ?_ ?_; rotate_left; (intro W hW; (try dsimp only at hW); go_simp; try with_reducible rfl); (try simp only [Act.put, List.setIfInBounds_toArray, List.set_cons_zero, List.set_cons_succ]))
                clear hHeld
                refine takeVs (i := 10) rfl (by kernel_rfl) (by rfl) (exec_store1 F37 rfl rfl rfl rfl rfl (HS9.out.sn.list0 rfl) (HS9.out.sn.frozen 20)) (HB9.out.far H7S.out _) ?_
                (try simp only [Act.put])
                refine wpAnyH_done (by kernel_rfl) ?_ _
                have HSN := Lib.hid (HS9.out.setIn (fun _ => Or.inr rfl) hs0 a9 (yk.ms.length + 1) c9)
                have HON : Hid (OwnX w.heap.size (W9.setCell ⟨bs, 20, none⟩ (.slice a9 (yk.ms.length + 1) c9)) ⟨{ yk.s with ia := a9, nn := yk.ms.length + 1, ic := c9 }, yk.out, yk.ms ++ [m]⟩) :=
                  ((HOC.out.below (below1 _ _)).add HG9.out HO9.out ⟨ow_below HMD.out.1 (below1 _ _), HMD.out.2⟩).fr (Fr.setCell _ _ _) (fun j e => blkF HS9.out.sn (by decide) (by decide) e)
                have HL2 := Lib.hid (HL.out.round rfl hlt HSN.out HSTI.out HON.out)
                clear HS9 HO9 HG9 HB9 HSC HOC HB7C HMD HOWI HSTI HSN HON HL
                go_wp2
                go_roundw
                case rel => exact ⟨k + 1, _, _, by go_num, HL2, Lib.hid (fun _ => by omega)⟩
                case measure => simp [intOf]; omega
              · (try simp only [Act.put, List.setIfInBounds_toArray, List.set_cons_zero, List.set_cons_succ])
                refine takeV (i := 4) rfl (by kernel_rfl) (by rfl) (exec_load1 (v := .slice yk.s.ia yk.s.nn yk.s.ic) F37 rfl rfl ((HSC.out.sn.alloc _).list0 rfl)) (HB7C.out.alloc _) ?_
                (try simp only [Act.put, List.setIfInBounds_toArray, List.set_cons_zero, List.set_cons_succ])
                refine takeApp (i := 7) (m := 1) E37 rfl (by kernel_rfl) (by rfl) rfl (HOWI.out) (news := encMx m) rfl (news_wide _ _ _) (encM_one _) rfl rfl (by have := HKL.out; omega) (by have := HWC.out; simp at this ⊢; omega) ?_
                intro v9 W9 ho9 hg9 hpl
                obtain ⟨a9, c9, rfl, -⟩ := owns_shape ho9
                have HS9 : Hid (HS br bs b5 (fun j => j = br ∨ j = bs) w W9 ⟨s2.rest, s2.n, b9⟩ yk.s c) := (HSC.out.below (below1 _ _)).app HOWI.out hg9 HW0.out
                have HO9 := Lib.hid ho9
                have HG9 := Lib.hid hg9
                have HB9 : Hid (Blk W9 b7 49 (encMx m).toArray) := (HB7C.out.alloc _).fr (Fr.grownO hg9) HRN.out
                clear ho9 hg9 hpl
                refine ⟨HB9.out, ?_⟩
                (try simp only [Act.put, List.setIfInBounds_toArray, List.set_cons_zero, List.set_cons_succ])
                have hHeld : (fun X => Blk X b7 49 (encMx m).toArray) W9 := HB9.out
                (refine takeW (i := 8) (v := ?_) rfl (by kernel_rfl) (by kernel_rfl) (by kernel_rfl) (fun _ _ _ h => h) (by rfl) (by assumption) ?_ ?_; rotate_left; (intro W hW; (try dsimp only at hW); go_simp; try with_reducible rfl); (try simp only [Act.put, List.setIfInBounds_toArray, List.set_cons_zero, List.set_cons_succ]))
                (refine takeW (i := 9) (v := ?_) rfl (by kernel_rfl) (by kernel_rfl) (by kernel_rfl) (fun _ _ _ h => h) (by rfl) (by assumption) ?_ ?_; rotate_left; (intro W hW; (try dsimp only at hW); go_simp; try with_reducible rfl); (try simp only [Act.put, List.setIfInBounds_toArray, List.set_cons_zero, List.set_cons_succ]))
                clear hHeld
                refine takeVs (i := 10) rfl (by kernel_rfl) (by rfl) (exec_store1 F37 rfl rfl rfl rfl rfl (HS9.out.sn.list0 rfl) (HS9.out.sn.frozen 20)) (HB9.out.far H7S.out _) ?_
                (try simp only [Act.put])
                refine wpAnyH_done (by kernel_rfl) ?_ _
                have HSN := Lib.hid (HS9.out.setIn (fun _ => Or.inr rfl) hs0 a9 (yk.ms.length + 1) c9)
                have HON : Hid (OwnX w.heap.size (W9.setCell ⟨bs, 20, none⟩ (.slice a9 (yk.ms.length + 1) c9)) ⟨{ yk.s with ia := a9, nn := yk.ms.length + 1, ic := c9 }, yk.out, yk.ms ++ [m]⟩) :=
                  ((HOC.out.below (below1 _ _)).add HG9.out HO9.out ⟨ow_below HMD.out.1 (below1 _ _), HMD.out.2⟩).fr (Fr.setCell _ _ _) (fun j e => blkF HS9.out.sn (by decide) (by decide) e)
                have HL2 := Lib.hid (HL.out.round rfl hlt HSN.out HSTI.out HON.out)
                clear HS9 HO9 HG9 HB9 HSC HOC HB7C HMD HOWI HSTI HSN HON HL
                go_wp2
                go_roundw
                case rel => exact ⟨k + 1, _, _, by go_num, HL2, Lib.hid (fun _ => by omega)⟩
                case measure => simp [intOf]; omega
        · go_wp2_with fail
          go_end0
          exact HFIN.out _ _ _ _ HL.out (fun e => by have := HK.out e; omega)
end Go.Proofs.YtjaaldeaknmmbaaDoor
