/- The two laws of texts: the walks. -/
import Derived.Test.YtkinhhkodaacjaaGreatDoorV10
import Derived.Test.YtkinhhkodaacjaaGreatDoorK3
import Derived.Test.YtkinhhkodaacjaaGreatDoorT9
import Derived.Test.YtkinhhkodaacjaaGreatDoorT5
import Derived.Test.YtkinhhkodaacjaaGreatDoorG1
namespace Go.Proofs.YtkinhhkodaacjaaGreatDoor
open Go.RowKit Go.Shelf
open Md

theorem bytes_inj : ∀ {a b : List Int}, (∀ c ∈ a, 0 ≤ c ∧ c ≤ 255) → (∀ c ∈ b, 0 ≤ c ∧ c ≤ 255) → bytesOf a = bytesOf b → a = b
  | [], [], _, _, _ => rfl
  | [], y :: b, _, _, h => by simp [bytesOf] at h
  | x :: a, [], _, _, h => by simp [bytesOf] at h
  | x :: a, y :: b, ha, hb, h => by
    simp only [bytesOf, List.map_cons, List.cons.injEq] at h
    have h1 := ha x (by simp)
    have h2 := hb y (by simp)
    have h3 := congrArg UInt8.toNat h.1
    rw [UInt8.toNat_ofNat', UInt8.toNat_ofNat'] at h3
    have e : x = y := by omega
    rw [e, bytes_inj (fun c hc => ha c (by simp [hc])) (fun c hc => hb c (by simp [hc])) (show bytesOf a = bytesOf b from h.2)]
theorem ops_inj : ∀ {a b : List Ho}, (∀ m ∈ a, ∀ c ∈ m.d, 0 ≤ c ∧ c ≤ 255) → (∀ m ∈ b, ∀ c ∈ m.d, 0 ≤ c ∧ c ≤ 255) → a.map Ho.ok = b.map Ho.ok → a.map Ho.key = b.map Ho.key
  | [], [], _, _, _ => rfl
  | [], y :: b, _, _, h => by simp at h
  | x :: a, [], _, _, h => by simp at h
  | x :: a, y :: b, ha, hb, h => by
    simp only [List.map_cons, List.cons.injEq] at h ⊢
    obtain ⟨h1, h2⟩ := h
    unfold Ho.ok at h1
    simp only [Ok.mk.injEq] at h1
    obtain ⟨e1, e2, e3, e4, e5, e6⟩ := h1
    refine ⟨?_, ops_inj (fun m hm => ha m (by simp [hm])) (fun m hm => hb m (by simp [hm])) h2⟩
    unfold Ho.key
    rw [e1, e2, e3, e4, e5, bytes_inj (ha x (by simp)) (hb y (by simp)) e6]
theorem fts_inj : ∀ {a b : List Fa}, a.map Fa.fk = b.map Fa.fk → a = b
  | [], [], _ => rfl
  | [], y :: b, h => by simp at h
  | x :: a, [], h => by simp at h
  | x :: a, y :: b, h => by
    simp only [List.map_cons, List.cons.injEq] at h
    obtain ⟨h1, h2⟩ := h
    rw [fts_inj h2]
    obtain ⟨k, n, c, r, s, p, q⟩ := x
    obtain ⟨k', n', c', r', s', p', q'⟩ := y
    unfold Fa.fk at h1
    simp only [Fk.mk.injEq] at h1
    obtain ⟨rfl, rfl, rfl, rfl, rfl, rfl, rfl⟩ := h1
    rfl
theorem same_of_k {W W' : World} {x y : Sc} (hx : GoodSc W x) (hy : GoodSc W' y) (h : x.k = y.k) : SameSc x y := by
  unfold Sc.k at h
  simp only [Scr.mk.injEq] at h
  obtain ⟨h1, h2, h3, h4, h5, h6, h7, h8⟩ := h
  exact ⟨h1, h2, h3, h4, h5, h6, ops_inj (fun m hm => (hx.opg m hm).d.2) (fun m hm => (hy.opg m hm).d.2) h7, fts_inj h8⟩
/-- The faults' numbers are numbers. -/
def FtsI (x : Sc) : Prop := ∀ f ∈ x.faults, ∀ n ∈ f.fk.ints, inI n
theorem Small.prn {w : World} {x : Sc} (h : Small x) (hx : GoodSc w x) (hf : FtsI x) : Prn w x :=
  ⟨hx, hf, by have := h.l1; omega, ⟨by have := h.l2; omega, by have := h.l3; omega, by have := h.l4; omega, by have := h.l5; omega⟩, ⟨by have := h.l6; omega, fun o ho => by have := h.l8 o ho; omega⟩, by have := h.l7; omega⟩
theorem Small.lns {w : World} {x : Sc} (h : Small x) (hx : GoodSc w x) (hf : FtsI x) : Lns w x :=
  ⟨hx, hf, by have := h.l1; omega, ⟨by have := h.l2; omega, by have := h.l3; omega, by have := h.l4; omega, by have := h.l5; omega⟩, ⟨by have := h.l6; omega, fun o ho => by have := h.l8 o ho; omega⟩, by have := h.l7; omega⟩
theorem Small.text {w : World} {x : Sc} (h : Small x) (hx : GoodSc w x) (hf : FtsI x) : (printS x.k).length ≤ 100000000 := by
  have h0 := h.prn hx hf
  have h1 := pre_len h0
  have h2 := flat_max opT 41000 (x.ops.map Ho.ok) (fun o ho => by
    obtain ⟨p, hp, rfl⟩ := List.mem_map.1 ho
    exact opT_len (w := w) ⟨hx.opg p hp, h0.ops.2 p hp⟩)
  have h3 := flat_max ftT 41000 (x.faults.map Fa.fk) (fun f hf' => by
    obtain ⟨p, hp, rfl⟩ := List.mem_map.1 hf'
    exact ftT_len (hf p hp))
  have h4 := h.l6
  have h5 := h.l7
  rw [List.length_map] at h2 h3
  have e : printS x.k = preT x.k 6 ++ ((x.ops.map Ho.ok).flatMap opT ++ (x.faults.map Fa.fk).flatMap ftT) := rfl
  rw [e, List.length_append, List.length_append]
  omega
theorem GoodSc.fits {w : World} {x : Sc} (hx : GoodSc w x) (hf : FtsI x) : x.k.Fits := by
  refine ⟨fun k hk n hn => ?_, fun o ho n hn => ?_, fun f hf' n hn => ?_⟩
  · match k, hk with
    | 0, _ => rw [show n = x.rounds from List.mem_singleton.1 hn]; exact hx.rounds
    | 1, _ =>
      obtain ⟨b, _, rfl⟩ := List.mem_map.1 (show n ∈ x.ups.l.map bitZ from hn)
      cases b <;> exact ⟨by decide, by decide⟩
    | 2, _ => exact hx.offs.2 n hn
    | 3, _ => exact hx.gates.2 n hn
    | 4, _ => exact hx.guards.2 n hn
    | 5, _ => exact hx.drifts.2 n hn
  · obtain ⟨p, hp, rfl⟩ := List.mem_map.1 ho
    exact ho_ints (hx.opg p hp) n hn
  · obtain ⟨p, hp, rfl⟩ := List.mem_map.1 hf'
    exact hf p hp n hn
/-- A script that was read out of a text. -/
theorem read_prn {w : World} {y : Sc} {t : List UInt8} (hy : GoodSc w y) (hp : parseS t = (some y.k, 0)) (ht : t.length ≤ 20000) : Prn w y := by
  obtain ⟨e1, e2, _⟩ := print_parseS hp
  obtain ⟨l1, l2, l3, l4, l5, l6, l7, l8⟩ := printS_ge y.k
  rw [e1] at l1 l2 l3 l4 l5 l6 l7 l8
  have q6 : y.k.ops.length = y.ops.length := List.length_map _
  have q8 : y.k.fts.length = y.faults.length := List.length_map _
  have k1 : y.k.ups.length = y.ups.l.length := rfl
  have k2 : y.k.offs.length = y.offs.l.length := rfl
  have k3 : y.k.gates.length = y.gates.l.length := rfl
  have k4 : y.k.guards.length = y.guards.l.length := rfl
  have k5 : y.k.drifts.length = y.drifts.l.length := rfl
  exact ⟨hy, fun f hf => e2.fts f.fk (List.mem_map_of_mem hf), by omega, ⟨by omega, by omega, by omega, by omega⟩, ⟨by omega, fun o ho => by
    have := l7 o.ok (List.mem_map_of_mem ho)
    have e : o.ok.d.length = o.d.length := bytesOf_len _
    omega⟩, by omega⟩
theorem parsed_ups {t : List UInt8} {y : Sc} {n : Nat} {c : Int} (h : (c = 0 ∧ n = 0 ∧ parseS t = (some y.k, 0)) ∨ (c = 160 ∧ y = sc0 ∧ parseS t = (none, n))) (ht : t.length ≤ 20000) : y.ups.l.length ≤ 16384 := by
  rcases h with ⟨_, _, hp⟩ | ⟨_, rfl, _⟩
  · obtain ⟨e1, _, _⟩ := print_parseS hp
    have l1 := (printS_ge y.k).1
    rw [e1] at l1
    have k1 : y.k.ups.length = y.ups.l.length := rfl
    omega
  · exact Nat.zero_le _
theorem parsed_same {W W' : World} {t : List UInt8} {x y : Sc} {n m : Nat} {c d : Int} (hx : GoodSc W x) (hy : GoodSc W' y) (h : (c = 0 ∧ n = 0 ∧ parseS t = (some x.k, 0)) ∨ (c = 160 ∧ x = sc0 ∧ parseS t = (none, n))) (k : (d = 0 ∧ m = 0 ∧ parseS t = (some y.k, 0)) ∨ (d = 160 ∧ y = sc0 ∧ parseS t = (none, m))) : n = m ∧ c = d ∧ SameSc x y := by
  rcases h with ⟨rfl, rfl, hp⟩ | ⟨rfl, rfl, hp⟩ <;> rcases k with ⟨rfl, rfl, kp⟩ | ⟨rfl, rfl, kp⟩
  · rw [hp] at kp
    exact ⟨rfl, rfl, same_of_k hx hy (by simpa using kp)⟩
  · rw [hp] at kp; cases kp
  · rw [hp] at kp; cases kp
  · rw [hp] at kp
    exact ⟨by simpa using kp, rfl, same_refl _⟩
/-- The three boxes. -/
structure SB3 (x y z : Sc) (w : World) (b g h : Nat) (X : World) : Prop where
  bel : Below w.heap.size w X
  gy : GoodSc X y
  gz : GoodSc X z
  bx : Blk X b 27 (encSc x).toArray
  by' : Blk X g 27 (encSc y).toArray
  bz : Blk X h 27 (encSc z).toArray
theorem SB3.keep {x y z : Sc} {w X Y : World} {b g h : Nat} (s : SB3 x y z w b g h X) (hb : Below X.heap.size X Y) : SB3 x y z w b g h Y := ⟨s.bel.trans (hb.mono s.bel.size), s.gy.below hb, s.gz.below hb, s.bx.keep hb, s.by'.keep hb, s.bz.keep hb⟩
set_option maxRecDepth 100000 in
set_option maxHeartbeats 3200000 in
theorem texts_any (x : Sc) (t : List UInt8) (w : World) (h : GoodSc w x) (hf : FtsI x) (hm : MaxLen w) : Calls Tryz.prog 3 #[.agg (encSc x).toArray, strV t] w fun e w' => e = .returned (.bool true) ∧ Below w.heap.size w w' := by
  have HPO : Hid (∀ w', Below w.heap.size w w' → (fun e w' => e = Ending.returned (.bool true) ∧ Below w.heap.size w w') (.returned (.bool true)) w') := fun w' h => ⟨rfl, h⟩
  generalize (fun e w' => e = Ending.returned (.bool true) ∧ Below w.heap.size w w') = POST at *
  have HX := Lib.hid h
  have HFI := Lib.hid hf
  have HM := Lib.hid hm
  obtain ⟨b, hb⟩ : ∃ b, b = w.heap.size := ⟨_, rfl⟩
  obtain ⟨W0, hW0⟩ : ∃ W0, W0 = w.alloc (.cells (encSc x).toArray 27) := ⟨_, rfl⟩
  have HB0 : Hid (Below w.heap.size w W0) := by rw [hW0]; exact below1 _ _
  have HBX0 : Hid (Blk W0 b 27 (encSc x).toArray) := by rw [hW0, hb]; exact Blk.new' rfl
  have HG0 : Hid (w.heap.size = b) := hb.symm
  have HW00 := Lib.hid hW0
  clear h hf hm hb hW0
  go_enter Tryz.func3, Tryz.ntmps3
  go_upto_region 1 with fail
  change Code.wp _ _ _ _ (w.alloc (.cells (encSc x).toArray 27))
  rw [← HW00.out, HG0.out]
  clear HW00 HG0
  go_wp2_with fail
  refine (begun_any W0).mono ?_
  rintro e W1 ⟨rfl, hb1⟩
  have HBX1 := Lib.hid (HBX0.out.keep hb1)
  have HB1 := Lib.hid (HB0.out.trans (hb1.mono HB0.out.size))
  clear hb1 HB0 HBX0
  go_wp2_with ((with_reducible show wpList _ _ _ (Oper.mk (some 14) _ _ _ _ _ :: _) _ _); refine wpList_loadW W27 rfl rfl (x := .tmp 2) rfl (encSc x) rfl (Blk.list HBX1.out) ?_)
  refine (few_any x W1 (HX.out.below HB1.out)).mono ?_
  rintro e W2 ⟨⟨bx, rfl, hbx⟩, hb2⟩
  have HBX2 := Lib.hid (HBX1.out.keep hb2)
  have HB2 := Lib.hid (HB1.out.trans (hb2.mono HB1.out.size))
  have HSM := Lib.hid hbx
  clear hbx hb2 HB1 HBX1
  cases bx with
  | false =>
    go_wp2_with fail
    refine (begun_any W2).mono ?_
    rintro e W3 ⟨rfl, hb3⟩
    have HB3 := Lib.hid (HB2.out.trans (hb3.mono HB2.out.size))
    clear hb3
    go_wp2
    exact HPO.out _ HB3.out
  | true =>
    replace HSM : Hid (Small x) := HSM.out (by first | rfl | trivial)
    by_cases ht : t.length ≤ 20000
    rotate_left
    · have ht2 : (20000 : Int) < (t.length : Int) := by omega
      have ht3 : decide ((20000 : Int) < (t.length : Int)) = true := by simp; omega
      clear ht
      go_wp2_with ((with_reducible show wpList _ _ _ (Oper.mk (some 20) _ _ _ _ _ :: _) _ _); refine wpList_val rfl (exec_lenS rfl rfl) ?_)
      refine (begun_any W2).mono ?_
      rintro e W3 ⟨rfl, hb3⟩
      have HB3 := Lib.hid (HB2.out.trans (hb3.mono HB2.out.size))
      clear hb3
      go_wp2
      exact HPO.out _ HB3.out
    · have ht2 : ¬ (20000 : Int) < (t.length : Int) := by omega
      have ht3 : decide ((20000 : Int) < (t.length : Int)) = false := by simp; omega
      have HT : Hid (t.length ≤ 20000) := ht
      clear ht
      go_wp2_with ((with_reducible show wpList _ _ _ (Oper.mk (some 20) _ _ _ _ _ :: _) _ _); refine wpList_val rfl (exec_lenS rfl rfl) ?_)
      refine (parse_any t W2 (HM.out.below HB2.out) (by have := HT.out; omega)).mono ?_
      rintro e W3 ⟨hb3, y, n7, c7, rfl, hgy, hcy⟩
      have HBX3 := Lib.hid (HBX2.out.keep hb3)
      have HB3 := Lib.hid (HB2.out.trans (hb3.mono HB2.out.size))
      have HGY3 := Lib.hid hgy
      have HCY := Lib.hid hcy
      clear hb3 hgy hcy HB2 HBX2
      go_upto_region 4 with ((with_reducible show wpList _ _ _ (Oper.mk none (Op.store 27 _ _) _ _ _ _ :: _) _ _); refine wpList_boxW W27 rfl rfl rfl (encSc y) rfl rfl (encSc_one _) rfl ?_; go_must (intro W4 HX2 hal hz2; have HBY4 := Lib.hid HX2; have HAL := Lib.hid hal; clear HX2 hal hz2))
      obtain ⟨g5, hg5⟩ : ∃ g5, g5 = W3.heap.size := ⟨_, rfl⟩
      rw [← hg5] at HBY4 ⊢
      have HBX4 := Lib.hid (HBX3.out.keep HAL.out)
      have HB4 := Lib.hid (HB3.out.trans (HAL.out.mono HB3.out.size))
      have HGY4 := Lib.hid (HGY3.out.below HAL.out)
      clear HAL hg5 HBX3 HB3 HGY3
      go_wp2_with fail
      refine (rparse_any t W4 (by have := HT.out; omega)).mono ?_
      rintro e W5 ⟨hb5, z, n8, c8, rfl, hgz, hcz⟩
      obtain ⟨e1, e2, e3⟩ := parsed_same HGY4.out hgz HCY.out hcz
      have HSS := Lib.hid e3
      have HCZ := Lib.hid hcz
      have HBX5 := Lib.hid (HBX4.out.keep hb5)
      have HBY5 := Lib.hid (HBY4.out.keep hb5)
      have HB5 := Lib.hid (HB4.out.trans (hb5.mono HB4.out.size))
      have HGY5 := Lib.hid (HGY4.out.below hb5)
      have HGZ5 := Lib.hid hgz
      have HUY := Lib.hid (parsed_ups HCY.out HT.out)
      have HUZ := Lib.hid (parsed_ups hcz HT.out)
      subst e1 e2
      clear hb5 hgz hcz e3 HB4 HBX4 HBY4 HGY4 HCY HCZ
      go_upto_region 5 with ((with_reducible show wpList _ _ _ (Oper.mk none (Op.store 27 _ _) _ _ _ _ :: _) _ _); refine wpList_boxW W27 rfl rfl rfl (encSc z) rfl rfl (encSc_one _) rfl ?_; go_must (intro W6 HX2 hal hz2; have HBZ6 := Lib.hid HX2; have HAL := Lib.hid hal; clear HX2 hal hz2))
      obtain ⟨g8, hg8⟩ : ∃ g8, g8 = W5.heap.size := ⟨_, rfl⟩
      rw [← hg8] at HBZ6 ⊢
      have hS : Hid (SB3 x y z w b g5 g8 W6.drew) := (⟨(HB5.out.trans (HAL.out.mono HB5.out.size)), HGY5.out.below HAL.out, HGZ5.out.below HAL.out, HBX5.out.keep HAL.out, HBY5.out.keep HAL.out, HBZ6.out⟩ : SB3 x y z w b g5 g8 W6).keep (Below.refl _ _).drew
      clear HAL hg8 HBX5 HBY5 HB5 HGY5 HGZ5 HBZ6
      have HCS : Hid (∀ X, GoodSc X y → GoodSc X z → Calls Tryz.prog 11 #[.agg (encSc y).toArray, .agg (encSc z).toArray] X fun e w' => e = .returned (.bool true) ∧ Below X.heap.size X w') := fun X h1 h2 => by
        have := rsameSc_any y z X h1 h2 HUY.out HUZ.out
        rwa [decide_eq_true HSS.out] at this
      refine wp_region_held_drew (S := fun X => Hid (SB3 x y z w b g5 g8 X)) (by kernel_rfl) hS (fun hHeld => ?_)
      (refine takeW (i := 0) rfl (by kernel_rfl) (by kernel_rfl) (by kernel_rfl) (fun _ _ _ h => h) (by rfl) (by assumption) (fun W hW => exec_loadW W27 rfl rfl (cs := encSc x) rfl hW.out.bx.list) ?_; (try simp only [Act.put, List.setIfInBounds_toArray, List.set_cons_zero, List.set_cons_succ]))
      (refine takeW (i := 2) rfl (by kernel_rfl) (by kernel_rfl) (by kernel_rfl) (fun _ _ _ h => h) (by rfl) (by assumption) (fun W hW => exec_loadW W27 rfl rfl (cs := encSc x) rfl hW.out.bx.list) ?_; (try simp only [Act.put, List.setIfInBounds_toArray, List.set_cons_zero, List.set_cons_succ]))
      refine takeC (i := 1) rfl (by kernel_rfl) (by rfl) (fun K hK => ?_)
      go_simp
      refine (print_any x _ (HSM.out.prn (HX.out.below hHeld.out.bel) HFI.out)).mono ?_
      rintro e W7 ⟨rfl, hb⟩
      have HS1 : Hid (SB3 x y z w b g5 g8 W7) := Lib.hid (hHeld.out.keep hb)
      clear hHeld hb
      refine hK.out _ _ HS1 (fun hHeld => ?_)
      clear hK K HS1
      (try simp only [Act.put, List.setIfInBounds_toArray, List.set_cons_zero, List.set_cons_succ])
      refine takeC (i := 3) rfl (by kernel_rfl) (by rfl) (fun K hK => ?_)
      go_simp
      refine (rprint_any x _ (HSM.out.lns (HX.out.below hHeld.out.bel) HFI.out)).mono ?_
      rintro e W8 ⟨rfl, hb⟩
      have HS3 : Hid (SB3 x y z w b g5 g8 W8) := Lib.hid (hHeld.out.keep hb)
      clear hHeld hb
      refine hK.out _ _ HS3 (fun hHeld => ?_)
      clear hK K HS3
      (try simp only [Act.put, List.setIfInBounds_toArray, List.set_cons_zero, List.set_cons_succ])
      (refine takeW (i := 4) rfl (by kernel_rfl) (by kernel_rfl) (by kernel_rfl) (fun _ _ _ h => h) (by rfl) (by assumption) (fun W hW => exec_eqB (x := printS x.k) (y := printS x.k) (b := true) (decide_eq_true rfl) rfl rfl rfl) ?_; (try simp only [Act.put, List.setIfInBounds_toArray, List.set_cons_zero, List.set_cons_succ]))
      (refine takeW (i := 5) (v := ?_) rfl (by kernel_rfl) (by kernel_rfl) (by kernel_rfl) (fun _ _ _ h => h) (by rfl) (by assumption) ?_ ?_; rotate_left; (intro W hW; (try dsimp only at hW); go_simp; try with_reducible rfl); (try simp only [Act.put, List.setIfInBounds_toArray, List.set_cons_zero, List.set_cons_succ]))
      (refine takeW (i := 6) rfl (by kernel_rfl) (by kernel_rfl) (by kernel_rfl) (fun _ _ _ h => h) (by rfl) (by assumption) (fun W hW => exec_loadW W27 rfl rfl (cs := encSc y) rfl hW.out.by'.list) ?_; (try simp only [Act.put, List.setIfInBounds_toArray, List.set_cons_zero, List.set_cons_succ]))
      (refine takeW (i := 7) rfl (by kernel_rfl) (by kernel_rfl) (by kernel_rfl) (fun _ _ _ h => h) (by rfl) (by assumption) (fun W hW => exec_loadW W27 rfl rfl (cs := encSc z) rfl hW.out.bz.list) ?_; (try simp only [Act.put, List.setIfInBounds_toArray, List.set_cons_zero, List.set_cons_succ]))
      refine takeC (i := 8) rfl (by kernel_rfl) (by rfl) (fun K hK => ?_)
      go_simp
      refine (HCS.out _ hHeld.out.gy hHeld.out.gz).mono ?_
      rintro e W9 ⟨rfl, hb⟩
      have HS8 : Hid (SB3 x y z w b g5 g8 W9) := Lib.hid (hHeld.out.keep hb)
      clear hHeld hb
      refine hK.out _ _ HS8 (fun hHeld => ?_)
      clear hK K HS8
      (try simp only [Act.put, List.setIfInBounds_toArray, List.set_cons_zero, List.set_cons_succ])
      (refine takeW (i := 9) (v := ?_) rfl (by kernel_rfl) (by kernel_rfl) (by kernel_rfl) (fun _ _ _ h => h) (by rfl) (by assumption) ?_ ?_; rotate_left; (intro W hW; (try dsimp only at hW); go_simp; try with_reducible rfl); (try simp only [Act.put, List.setIfInBounds_toArray, List.set_cons_zero, List.set_cons_succ]))
      (refine takeW (i := 10) (v := ?_) rfl (by kernel_rfl) (by kernel_rfl) (by kernel_rfl) (fun _ _ _ h => h) (by rfl) (by assumption) ?_ ?_; rotate_left; (intro W hW; (try dsimp only at hW); go_simp; try with_reducible rfl); (try simp only [Act.put, List.setIfInBounds_toArray, List.set_cons_zero, List.set_cons_succ]))
      first
        | (refine takeW (i := 11) (v := ?_) rfl (by kernel_rfl) (by kernel_rfl) (by kernel_rfl) (fun _ _ _ h => h) (by rfl) (by assumption) ?_ ?_; rotate_left; (intro W hW; (try dsimp only at hW); go_simp; try with_reducible rfl); (try simp only [Act.put, List.setIfInBounds_toArray, List.set_cons_zero, List.set_cons_succ]))
        | (refine takeU (i := 11) rfl (by kernel_rfl) (by kernel_rfl) (by kernel_rfl) (fun _ _ _ h => h) (by rfl) (by assumption) ?_; (try simp only [Act.put, List.setIfInBounds_toArray, List.set_cons_zero, List.set_cons_succ]))
      first
        | (refine takeW (i := 12) (v := ?_) rfl (by kernel_rfl) (by kernel_rfl) (by kernel_rfl) (fun _ _ _ h => h) (by rfl) (by assumption) ?_ ?_; rotate_left; (intro W hW; (try dsimp only at hW); go_simp; try with_reducible rfl); (try simp only [Act.put, List.setIfInBounds_toArray, List.set_cons_zero, List.set_cons_succ]))
        | (refine takeU (i := 12) rfl (by kernel_rfl) (by kernel_rfl) (by kernel_rfl) (fun _ _ _ h => h) (by rfl) (by assumption) ?_; (try simp only [Act.put, List.setIfInBounds_toArray, List.set_cons_zero, List.set_cons_succ]))
      first
        | (refine takeW (i := 13) (v := ?_) rfl (by kernel_rfl) (by kernel_rfl) (by kernel_rfl) (fun _ _ _ h => h) (by rfl) (by assumption) ?_ ?_; rotate_left; (intro W hW; (try dsimp only at hW); go_simp; try with_reducible rfl); (try simp only [Act.put, List.setIfInBounds_toArray, List.set_cons_zero, List.set_cons_succ]))
        | (refine takeU (i := 13) rfl (by kernel_rfl) (by kernel_rfl) (by kernel_rfl) (fun _ _ _ h => h) (by rfl) (by assumption) ?_; (try simp only [Act.put, List.setIfInBounds_toArray, List.set_cons_zero, List.set_cons_succ]))
      (refine takeW (i := 14) (v := ?_) rfl (by kernel_rfl) (by kernel_rfl) (by kernel_rfl) (fun _ _ _ h => h) (by rfl) (by assumption) ?_ ?_; rotate_left; (intro W hW; (try dsimp only at hW); go_simp; try with_reducible rfl); (try simp only [Act.put, List.setIfInBounds_toArray, List.set_cons_zero, List.set_cons_succ]))
      (refine takeW (i := 15) (v := ?_) rfl (by kernel_rfl) (by kernel_rfl) (by kernel_rfl) (fun _ _ _ h => h) (by rfl) (by assumption) ?_ ?_; rotate_left; (intro W hW; (try dsimp only at hW); go_simp; try with_reducible rfl); (try simp only [Act.put, List.setIfInBounds_toArray, List.set_cons_zero, List.set_cons_succ]))
      first
        | (refine takeW (i := 16) (v := ?_) rfl (by kernel_rfl) (by kernel_rfl) (by kernel_rfl) (fun _ _ _ h => h) (by rfl) (by assumption) ?_ ?_; rotate_left; (intro W hW; (try dsimp only at hW); go_simp; try with_reducible rfl); (try simp only [Act.put, List.setIfInBounds_toArray, List.set_cons_zero, List.set_cons_succ]))
        | (refine takeU (i := 16) rfl (by kernel_rfl) (by kernel_rfl) (by kernel_rfl) (fun _ _ _ h => h) (by rfl) (by assumption) ?_; (try simp only [Act.put, List.setIfInBounds_toArray, List.set_cons_zero, List.set_cons_succ]))
      first
        | (refine takeW (i := 17) (v := ?_) rfl (by kernel_rfl) (by kernel_rfl) (by kernel_rfl) (fun _ _ _ h => h) (by rfl) (by assumption) ?_ ?_; rotate_left; (intro W hW; (try dsimp only at hW); go_simp; try with_reducible rfl); (try simp only [Act.put, List.setIfInBounds_toArray, List.set_cons_zero, List.set_cons_succ]))
        | (refine takeU (i := 17) rfl (by kernel_rfl) (by kernel_rfl) (by kernel_rfl) (fun _ _ _ h => h) (by rfl) (by assumption) ?_; (try simp only [Act.put, List.setIfInBounds_toArray, List.set_cons_zero, List.set_cons_succ]))
      first
        | (refine takeW (i := 18) (v := ?_) rfl (by kernel_rfl) (by kernel_rfl) (by kernel_rfl) (fun _ _ _ h => h) (by rfl) (by assumption) ?_ ?_; rotate_left; (intro W hW; (try dsimp only at hW); go_simp; try with_reducible rfl); (try simp only [Act.put, List.setIfInBounds_toArray, List.set_cons_zero, List.set_cons_succ]))
        | (refine takeU (i := 18) rfl (by kernel_rfl) (by kernel_rfl) (by kernel_rfl) (fun _ _ _ h => h) (by rfl) (by assumption) ?_; (try simp only [Act.put, List.setIfInBounds_toArray, List.set_cons_zero, List.set_cons_succ]))
      (refine takeW (i := 19) (v := ?_) rfl (by kernel_rfl) (by kernel_rfl) (by kernel_rfl) (fun _ _ _ h => h) (by rfl) (by assumption) ?_ ?_; rotate_left; (intro W hW; (try dsimp only at hW); go_simp; try with_reducible rfl); (try simp only [Act.put, List.setIfInBounds_toArray, List.set_cons_zero, List.set_cons_succ]))
      (refine takeW (i := 20) (v := ?_) rfl (by kernel_rfl) (by kernel_rfl) (by kernel_rfl) (fun _ _ _ h => h) (by rfl) (by assumption) ?_ ?_; rotate_left; (intro W hW; (try dsimp only at hW); go_simp; try with_reducible rfl); (try simp only [Act.put, List.setIfInBounds_toArray, List.set_cons_zero, List.set_cons_succ]))
      refine wpAnyH_done (by kernel_rfl) ?_ _
      have HB9 := Lib.hid hHeld.out.bel
      clear hHeld
      go_wp2
      exact HPO.out _ HB9.out
set_option maxRecDepth 100000 in
set_option maxHeartbeats 3200000 in
theorem back_any (x : Sc) (t : List UInt8) (w : World) (h : GoodSc w x) (hf : FtsI x) (hm : MaxLen w) : Calls Tryz.prog 4 #[.agg (encSc x).toArray, strV t] w fun e w' => e = .returned (.bool true) ∧ Below w.heap.size w w' := by
  have HPO : Hid (∀ w', Below w.heap.size w w' → (fun e w' => e = Ending.returned (.bool true) ∧ Below w.heap.size w w') (.returned (.bool true)) w') := fun w' h => ⟨rfl, h⟩
  generalize (fun e w' => e = Ending.returned (.bool true) ∧ Below w.heap.size w w') = POST at *
  have HX := Lib.hid h
  have HFI := Lib.hid hf
  have HM := Lib.hid hm
  obtain ⟨b, hb⟩ : ∃ b, b = w.heap.size := ⟨_, rfl⟩
  obtain ⟨W0, hW0⟩ : ∃ W0, W0 = w.alloc (.cells (encSc x).toArray 27) := ⟨_, rfl⟩
  have HB0 : Hid (Below w.heap.size w W0) := by rw [hW0]; exact below1 _ _
  have HBX0 : Hid (Blk W0 b 27 (encSc x).toArray) := by rw [hW0, hb]; exact Blk.new' rfl
  have HG0 : Hid (w.heap.size = b) := hb.symm
  have HW00 := Lib.hid hW0
  clear h hf hm hb hW0
  go_enter Tryz.func4, Tryz.ntmps4
  go_upto_region 1 with fail
  change Code.wp _ _ _ _ (w.alloc (.cells (encSc x).toArray 27))
  rw [← HW00.out, HG0.out]
  clear HW00 HG0
  go_wp2_with fail
  refine (begun_any W0).mono ?_
  rintro e W1 ⟨rfl, hb1⟩
  have HBX1 := Lib.hid (HBX0.out.keep hb1)
  have HB1 := Lib.hid (HB0.out.trans (hb1.mono HB0.out.size))
  clear hb1 HB0 HBX0
  go_wp2_with ((with_reducible show wpList _ _ _ (Oper.mk (some 13) _ _ _ _ _ :: _) _ _); refine wpList_loadW W27 rfl rfl (x := .tmp 2) rfl (encSc x) rfl (Blk.list HBX1.out) ?_)
  refine (few_any x W1 (HX.out.below HB1.out)).mono ?_
  rintro e W2 ⟨⟨bx, rfl, hbx⟩, hb2⟩
  have HBX2 := Lib.hid (HBX1.out.keep hb2)
  have HB2 := Lib.hid (HB1.out.trans (hb2.mono HB1.out.size))
  have HSM := Lib.hid hbx
  clear hbx hb2 HB1 HBX1
  cases bx with
  | false =>
    go_wp2_with fail
    refine (begun_any W2).mono ?_
    rintro e W3 ⟨rfl, hb3⟩
    have HB3 := Lib.hid (HB2.out.trans (hb3.mono HB2.out.size))
    clear hb3
    go_wp2
    exact HPO.out _ HB3.out
  | true =>
    replace HSM : Hid (Small x) := HSM.out (by first | rfl | trivial)
    by_cases ht : t.length ≤ 20000
    rotate_left
    · have ht2 : (20000 : Int) < (t.length : Int) := by omega
      have ht3 : decide ((20000 : Int) < (t.length : Int)) = true := by simp; omega
      clear ht
      go_wp2_with ((with_reducible show wpList _ _ _ (Oper.mk (some 19) _ _ _ _ _ :: _) _ _); refine wpList_val rfl (exec_lenS rfl rfl) ?_)
      refine (begun_any W2).mono ?_
      rintro e W3 ⟨rfl, hb3⟩
      have HB3 := Lib.hid (HB2.out.trans (hb3.mono HB2.out.size))
      clear hb3
      go_wp2
      exact HPO.out _ HB3.out
    · have ht2 : ¬ (20000 : Int) < (t.length : Int) := by omega
      have ht3 : decide ((20000 : Int) < (t.length : Int)) = false := by simp; omega
      have HT : Hid (t.length ≤ 20000) := ht
      clear ht
      go_wp2_with (first | ((with_reducible show wpList _ _ _ (Oper.mk (some 19) _ _ _ _ _ :: _) _ _); refine wpList_val rfl (exec_lenS rfl rfl) ?_) | ((with_reducible show wpList _ _ _ (Oper.mk (some 24) _ _ _ _ _ :: _) _ _); refine wpList_loadW W27 rfl rfl (x := .tmp 2) rfl (encSc x) rfl (Blk.list HBX2.out) ?_))
      refine (print_any x W2 (HSM.out.prn (HX.out.below HB2.out) HFI.out)).mono ?_
      rintro e W3 ⟨rfl, hb3⟩
      have HBX3 := Lib.hid (HBX2.out.keep hb3)
      have HB3 := Lib.hid (HB2.out.trans (hb3.mono HB2.out.size))
      clear hb3 HBX2 HB2
      have HTL := Lib.hid (HSM.out.text HX.out HFI.out)
      have HPP := Lib.hid (parse_printS (HX.out.fits HFI.out))
      go_wp2_with fail
      refine (parse_any (printS x.k) W3 (HM.out.below HB3.out) HTL.out).mono ?_
      rintro e W4 ⟨hb4, y, n5, c5, rfl, hgy, hcy⟩
      obtain ⟨e5, e6, hc2⟩ : c5 = 0 ∧ n5 = 0 ∧ parseS (printS x.k) = (some y.k, 0) := by
        rcases hcy with h | ⟨_, _, h⟩
        · exact h
        · rw [HPP.out] at h; cases h
      have HYX : Hid (y.k = x.k) := by
        rw [HPP.out] at hc2
        have := (Prod.mk.inj hc2).1
        show _ = _
        exact (Option.some.inj this).symm
      have HBX4 := Lib.hid (HBX3.out.keep hb4)
      have HB4 := Lib.hid (HB3.out.trans (hb4.mono HB3.out.size))
      have HGY4 := Lib.hid hgy
      have HSS := Lib.hid (same_of_k hgy HX.out HYX.out)
      clear hb4 hgy hcy hc2 HBX3 HB3 HTL HPP
      subst e5 e6
      go_upto_region 4 with ((with_reducible show wpList _ _ _ (Oper.mk none (Op.store 27 _ _) _ _ _ _ :: _) _ _); refine wpList_boxW W27 rfl rfl rfl (encSc y) rfl rfl (encSc_one _) rfl ?_; go_must (intro W5 HX2 hal hz2; have HBY5 := Lib.hid HX2; have HAL := Lib.hid hal; clear HX2 hal hz2))
      obtain ⟨g5, hg5⟩ : ∃ g5, g5 = W4.heap.size := ⟨_, rfl⟩
      rw [← hg5] at HBY5 ⊢
      have HBX5 := Lib.hid (HBX4.out.keep HAL.out)
      have HB5 := Lib.hid (HB4.out.trans (HAL.out.mono HB4.out.size))
      have HGY5 := Lib.hid (HGY4.out.below HAL.out)
      have HCS : Hid (Calls Tryz.prog 11 #[.agg (encSc y).toArray, .agg (encSc x).toArray] W5 fun e w' => e = .returned (.bool true) ∧ Below W5.heap.size W5 w') := by
        have := rsameSc_any y x W5 HGY5.out (HX.out.below HB5.out) (by have h1 := HYX.out; have h2 := HSM.out.l1; have h3 : y.ups.l = x.ups.l := congrArg Scr.ups h1; rw [h3]; omega) (by have := HSM.out.l1; omega)
        rwa [decide_eq_true HSS.out] at this
      clear HAL hg5 HBX4 HB4 HGY4
      go_wp2_with (first | ((with_reducible show wpList _ _ _ (Oper.mk (some 37) _ _ _ _ _ :: _) _ _); refine wpList_loadW W27 rfl rfl (x := .tmp 5) rfl (encSc y) rfl (Blk.list HBY5.out) ?_) | ((with_reducible show wpList _ _ _ (Oper.mk (some 38) _ _ _ _ _ :: _) _ _); refine wpList_loadW W27 rfl rfl (x := .tmp 2) rfl (encSc x) rfl (Blk.list HBX5.out) ?_))
      refine HCS.out.mono ?_
      rintro e W6 ⟨rfl, hb6⟩
      have HB6 := Lib.hid (HB5.out.trans (hb6.mono HB5.out.size))
      clear hb6 HCS HBX5 HBY5 HB5 HGY5
      go_wp2_with fail
      refine (parse_any t W6 (HM.out.below HB6.out) (by have := HT.out; omega)).mono ?_
      rintro e W7 ⟨hb7, z, n8, c8, rfl, hgz, hcz⟩
      have HB7 := Lib.hid (HB6.out.trans (hb7.mono HB6.out.size))
      have HGZ7 := Lib.hid hgz
      clear hb7 hgz HB6
      rcases hcz with ⟨rfl, rfl, hp⟩ | ⟨rfl, rfl, hp⟩
      · have HPZ := Lib.hid (read_prn HGZ7.out hp HT.out)
        have HPT : Hid (printS z.k = t) := (print_parseS hp).1
        clear hp
        go_upto_region 7 with ((with_reducible show wpList _ _ _ (Oper.mk none (Op.store 27 _ _) _ _ _ _ :: _) _ _); refine wpList_boxW W27 rfl rfl rfl (encSc z) rfl rfl (encSc_one _) rfl ?_; go_must (intro W8 HX2 hal hz2; have HBZ8 := Lib.hid HX2; have HAL := Lib.hid hal; clear HX2 hal hz2))
        obtain ⟨g8, hg8⟩ : ∃ g8, g8 = W7.heap.size := ⟨_, rfl⟩
        rw [← hg8] at HBZ8 ⊢
        have HB8 := Lib.hid (HB7.out.trans (HAL.out.mono HB7.out.size))
        have HCP : Hid (Calls Tryz.prog 9 #[.agg (encSc z).toArray] W8 fun e w' => e = .returned (strV t) ∧ Below W8.heap.size W8 w') := by
          have := print_any z W8 ⟨HPZ.out.good.below HAL.out, HPZ.out.fts, HPZ.out.ups, HPZ.out.lens, HPZ.out.ops, HPZ.out.fl⟩
          rwa [HPT.out] at this
        clear HAL hg8 HB7 HGZ7 HPZ HPT
        go_wp2_with ((with_reducible show wpList _ _ _ (Oper.mk (some 51) _ _ _ _ _ :: _) _ _); refine wpList_loadW W27 rfl rfl (x := .tmp 8) rfl (encSc z) rfl (Blk.list HBZ8.out) ?_)
        refine HCP.out.mono ?_
        rintro e W9 ⟨rfl, hb9⟩
        have HB9 := Lib.hid (HB8.out.trans (hb9.mono HB8.out.size))
        clear hb9 HCP HBZ8 HB8
        go_wp2_with ((with_reducible show wpList _ _ _ (Oper.mk (some 54) _ _ _ _ _ :: _) _ _); refine wpList_val rfl (exec_eqB (x := t) (y := t) (b := true) (decide_eq_true rfl) rfl rfl rfl) ?_)
        exact HPO.out _ HB9.out
      · clear hp
        go_upto_region 7 with ((with_reducible show wpList _ _ _ (Oper.mk none (Op.store 27 _ _) _ _ _ _ :: _) _ _); refine wpList_boxW W27 rfl rfl rfl (encSc sc0) rfl rfl (encSc_one _) rfl ?_; go_must (intro W8 HX2 hal hz2; have HBZ8 := Lib.hid HX2; have HAL := Lib.hid hal; clear HX2 hal hz2))
        have HB8 := Lib.hid (HB7.out.trans (HAL.out.mono HB7.out.size))
        clear HAL HB7 HGZ7
        go_wp2
        exact HPO.out _ HB8.out
end Go.Proofs.YtkinhhkodaacjaaGreatDoor
