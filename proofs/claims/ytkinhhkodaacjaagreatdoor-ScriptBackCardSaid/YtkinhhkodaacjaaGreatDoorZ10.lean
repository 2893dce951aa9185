/- The document's bytes. Truths as numbers; bytes as words. -/
import Derived.Test.YtkinhhkodaacjaaGreatDoorZ8
namespace Go.Proofs.YtkinhhkodaacjaaGreatDoor
open Go.RowKit Go.Shelf

theorem exec_mul16 {w : World} {o : Oper} {ac : Act} {X : Operand} {x : Nat} (ho : o.op = .binOp .mul 3 (.const (.int .i64 16)) X 3) (hx : ac.eval X = .int .i64 (x : Int)) (h : x < 16) : (execOp ac.eval o).run Tryz.prog w = .ok (.value (.int .i64 ((16 * x : Nat) : Int))) w := by
  have e : IntKind.i64.wrap (16 * (x : Int)) = 16 * (x : Int) := IntWalk.i64_in _ (by omega)
  have hc : ac.eval (.const (.int .i64 16)) = .int .i64 16 := rfl
  generalize ac.eval = ev at *
  unfold execOp
  simp only [ho, hx, hc]
  go_simp
  try simp [e]
theorem exec_addh {w : World} {o : Oper} {ac : Act} {X Y : Operand} {ty : TypeId} {x y : Nat} (ho : o.op = .binOp .add 3 X Y ty) (hx : ac.eval X = .int .i64 ((16 * x : Nat) : Int)) (hy : ac.eval Y = .int .i64 (y : Int)) (h : x < 16) (h2 : y < 16) : (execOp ac.eval o).run Tryz.prog w = .ok (.value (.int .i64 ((16 * x + y : Nat) : Int))) w := by
  have e : IntKind.i64.wrap (((16 * x : Nat) : Int) + (y : Int)) = ((16 * x + y : Nat) : Int) := by rw [IntWalk.i64_in _ (by omega)]; omega
  generalize ((16 * x : Nat) : Int) = p at *
  generalize ((16 * x + y : Nat) : Int) = q at *
  generalize ac.eval = ev at *
  unfold execOp
  simp only [ho, hx, hy]
  go_simp
  try simp [e]
theorem news_one (w : World) (c : UInt8) : ∀ (jj : Nat) (u : Value), ([u8c c] : List Value)[jj]? = some u → (w.alloc (.cells #[u8c c] 5)).cell? ((⟨w.heap.size, 0, none⟩ : Addr).add jj) = some u := fun jj u hu => by
  rw [Addr.add_lit, World.cell?_alloc_at _ _ _ _ rfl]
  simpa using hu
def RBytes (x : List UInt8) (w : World) (e : Ending) (w' : World) : Prop :=
  (∃ (v : Value) (b : Bool), e = .returned (.tuple #[v, .bool b]) ∧ (∀ l, unhexW x = some l → b = true ∧ w'.ownsRow w.heap.size 5 1 v l.length (l.map u8c)) ∧ (unhexW x = none → b = false ∧ v = .slice none 0 0)) ∧ Below w.heap.size w w'
set_option maxRecDepth 100000 in
set_option maxHeartbeats 1600000 in
theorem bytes48_any (x : List UInt8) (w : World) (hl : x.length ≤ 1000000000) : Calls Tryz.prog 51 #[strV x] w (RBytes x w) := by
  have HPB : Hid (∀ (w' : World), Below w.heap.size w w' → unhexW x = none → RBytes x w (.returned (.tuple #[.slice none 0 0, .bool false])) w') := fun w' hb h => ⟨⟨_, false, rfl, fun n hn => (by rw [h] at hn; cases hn), fun _ => ⟨rfl, rfl⟩⟩, hb⟩
  have HPG : Hid (∀ (w' : World) (v : Value) (l : List UInt8), Below w.heap.size w w' → unhexW x = some l → w'.ownsRow w.heap.size 5 1 v l.length (l.map u8c) → RBytes x w (.returned (.tuple #[v, .bool true])) w') := fun w' v l hb h ho => ⟨⟨v, true, rfl, fun n hn => (by rw [h] at hn; cases hn; exact ⟨rfl, ho⟩), fun hn => (by rw [h] at hn; cases hn)⟩, hb⟩
  generalize RBytes x w = POST at *
  obtain ⟨q, hq⟩ : ∃ q, q = x.length := ⟨_, rfl⟩
  have HLEN := Lib.hid (fun (w : World) (o : Oper) (ac : Act) (X : Operand) (ho : o.op = .call { callee := .builtin .len, args := #[X], argTypes := #[9] }) (hx : ac.eval X = strV x) => exec_lenS (w := w) ho hx)
  rw [← hq] at HLEN
  have HQ := Lib.hid hq
  have hq6 : q ≤ 1000000000 := by omega
  clear hq
  by_cases hodd : q % 2 = 1
  · have hm1 : (q : Int) % 2 = 1 := by omega
    have hm2 : (q : Int).tmod 2 = 1 := by rw [Int.tmod_eq_emod_of_nonneg (by omega)]; exact hm1
    obtain ⟨a, l, hal⟩ : ∃ a l, x = a :: l := by
      cases x with
      | nil => have := HQ.out; simp at this; omega
      | cons a l => exact ⟨a, l, rfl⟩
    have HX := Lib.hid hal
    have HIX := Lib.hid (fun (w : World) (o : Oper) (ac : Act) (X Y : Operand) (ho : o.op = .index 9 X Y) (hx : ac.eval X = strV x) (hy : ac.eval Y = .int .i64 0) => exec_ixl (k := 0) (c := a) (w := w) ho hx hy rfl (by rw [hal]; rfl))
    obtain ⟨cn, hcn⟩ : ∃ cn, cn = a.toNat := ⟨_, rfl⟩
    rw [← hcn] at HIX
    have HCN := Lib.hid hcn
    have HEV : Hid (l.length % 2 = 0) := by have := HQ.out; rw [hal] at this; simp at this; show _ = _; omega
    have HLQ : Hid (l.length + 1 = q) := by have := HQ.out; rw [hal] at this; simp at this; show _ = _; omega
    clear hal hcn hodd
    by_cases h120 : cn = 120
    · have ha : a = 120 := UInt8.toNat_inj.1 (by rw [← HCN.out, h120]; rfl)
      have HUW : Hid (unhexW x = unhexL l) := by show _ = _; unfold unhexW; rw [HX.out, ha, if_pos (show ((120 : UInt8) :: l).head? = some 120 from rfl)]; rfl
      have hb : ((cn : Int) == 120) = true := by simp [h120]
      have hb2 : (cn : Int) = 120 := by omega
      clear h120 ha
      go_enter Tryz.func51, Tryz.ntmps51
      go_wp2_with (first | ((with_reducible show wpList _ _ _ (Oper.mk (some 7) _ _ _ _ _ :: _) _ _); refine wpList_val rfl (HLEN.out _ _ _ _ rfl rfl) ?_) | ((with_reducible show wpList _ _ _ (Oper.mk (some 12) _ _ _ _ _ :: _) _ _); refine wpList_val rfl (HIX.out _ _ _ _ _ rfl rfl rfl) ?_))
      go_loopw [4, 5] (fun u i wr => ∃ (k : Nat) (acc m : List UInt8), 1 ≤ k ∧ i = .int .i64 (k : Int) ∧ Hid (x.drop k = m ∧ m.length % 2 = 0 ∧ k + m.length = q ∧ acc.length ≤ k) ∧ Hid (wr.ownsRow w.heap.size 5 1 u acc.length (acc.map u8c)) ∧ Hid (Below w.heap.size w wr) ∧ Hid (unhexL l = (unhexL m).map (acc ++ ·))) (fun _ i _ => q - (intOf i).toNat)
      case atStart => exact ⟨1, [], l, Nat.le_refl _, rfl, ⟨by rw [HX.out]; rfl, HEV.out, by have := HLQ.out; omega, by simp⟩, World.ownsRow_nil _ _ _ _, Below.refl _ _, Lib.hid (by cases unhexL l <;> simp)⟩
      case round =>
        obtain ⟨k, acc, m, hk1, rfl, HM, HO, HW, HU⟩ := hrel
        obtain ⟨wo, rfl⟩ : ∃ wo : World, wo = wr := ⟨_, rfl⟩
        obtain ⟨av, ac0, rfl, -⟩ := owns_shape HO.out
        cases m with
        | nil =>
          have hkq : ¬ ((k : Int) < (q : Int)) := by have := HM.out.2.2.1; simp at this; omega
          have HF : Hid (unhexW x = some acc) := by show _ = _; rw [HUW.out, HU.out]; simp [unhexL]
          clear HM HU
          go_wp2_with ((with_reducible show wpList _ _ _ (Oper.mk (some 17) _ _ _ _ _ :: _) _ _); refine wpList_val rfl (HLEN.out _ _ _ _ rfl rfl) ?_)
          exact HPG.out _ _ _ HW.out HF.out HO.out
        | cons c m1 =>
          cases m1 with
          | nil => exact absurd HM.out.2.1 (by simp)
          | cons d m2 =>
            have hkm : k + m2.length + 2 ≤ q ∧ acc.length ≤ k := by have := HM.out.2.2; simp only [List.length_cons] at this; omega
            have hkq : (k : Int) < (q : Int) := by omega
            have hxk : x[k]? = some c := by
              have h1 := HM.out.1
              have : (x.drop k)[0]? = some c := by rw [h1]; rfl
              simpa using this
            have hxk1 : x[k + 1]? = some d := by
              have h1 := HM.out.1
              have : (x.drop k)[1]? = some d := by rw [h1]; rfl
              simpa using this
            have HI0 := Lib.hid (fun (w : World) (o : Oper) (ac : Act) (X Y : Operand) (ho : o.op = .index 9 X Y) (hx : ac.eval X = strV x) (hy : ac.eval Y = .int .i64 (k : Int)) => exec_ix (w := w) ho hx hy hxk)
            have HI1 := Lib.hid (fun (w : World) (o : Oper) (ac : Act) (X Y : Operand) (ho : o.op = .index 9 X Y) (hx : ac.eval X = strV x) (hy : ac.eval Y = .int .i64 ((k : Int) + 1)) => exec_ixl (k := k + 1) (c := d) (w := w) ho hx hy (by omega) hxk1)
            have HC0 := Lib.hid (fun w => value_any c w)
            have HC1 := Lib.hid (fun w => value_any d w)
            have HUA : Hid (∀ (i j : Nat) (rr : Option (List UInt8)), hexV c = some i → hexV d = some j → unhexL m2 = rr → unhexL (c :: d :: m2) = rr.map (UInt8.ofNat (16 * i + j) :: ·)) := fun i j rr h1 h2 h3 => by
              rw [unhexL, h1, h2, h3]
              cases rr <;> rfl
            have HUB : Hid (hexV c = none ∨ hexV d = none → unhexL (c :: d :: m2) = none) := fun h => by
              rw [unhexL]
              rcases h with h | h
              · rw [h]
              · rw [h]; cases hexV c <;> rfl
            have HM2 : Hid (x.drop (k + 2) = m2 ∧ m2.length % 2 = 0 ∧ k + 2 + m2.length = q) := by
              have h1 := HM.out
              refine ⟨?_, ?_, ?_⟩
              · have e := congrArg (List.drop 2) h1.1
                rw [List.drop_drop] at e
                exact e
              · have := h1.2.1; simp only [List.length_cons] at this; omega
              · have := h1.2.2.1; simp only [List.length_cons] at this; omega
            have hwk : IntKind.i64.wrap ((k : Int) + 1) = (k : Int) + 1 := IntWalk.i64_in _ (by omega)
            clear hxk hxk1 HM
            cases hc : hexV c with
            | none =>
              have HBD : Hid (unhexW x = none) := by show _ = _; rw [HUW.out, HU.out, HUB.out (.inl hc)]; rfl
              rw [show ixZ c = -1 by unfold ixZ; rw [hc]] at HC0
              clear hc HUA HUB HU
              go_wp2_with (first | ((with_reducible show wpList _ _ _ (Oper.mk (some 17) _ _ _ _ _ :: _) _ _); refine wpList_val rfl (HLEN.out _ _ _ _ rfl rfl) ?_) | ((with_reducible show wpList _ _ _ (Oper.mk (some 23) _ _ _ _ _ :: _) _ _); refine wpList_val rfl (HI0.out _ _ _ _ _ rfl rfl rfl) ?_))
              refine (HC0.out _).mono ?_
              rintro e w1 ⟨rfl, hw1⟩
              subst hw1
              go_wp2
              exact HPB.out _ HW.out HBD.out
            | some i =>
              rw [show ixZ c = (i : Int) by unfold ixZ; rw [hc]] at HC0
              have hi0 : ¬ ((i : Int) < 0) := by omega
              cases hd : hexV d with
              | none =>
                have HBD : Hid (unhexW x = none) := by show _ = _; rw [HUW.out, HU.out, HUB.out (.inr hd)]; rfl
                rw [show ixZ d = -1 by unfold ixZ; rw [hd]] at HC1
                clear hc hd HUA HUB HU
                go_wp2_with (first | ((with_reducible show wpList _ _ _ (Oper.mk (some 17) _ _ _ _ _ :: _) _ _); refine wpList_val rfl (HLEN.out _ _ _ _ rfl rfl) ?_) | ((with_reducible show wpList _ _ _ (Oper.mk (some 23) _ _ _ _ _ :: _) _ _); refine wpList_val rfl (HI0.out _ _ _ _ _ rfl rfl rfl) ?_))
                refine (HC0.out _).mono ?_
                rintro e w1 ⟨rfl, hw1⟩
                subst hw1
                go_wp2_with ((with_reducible show wpList _ _ _ (Oper.mk (some 30) _ _ _ _ _ :: _) _ _); refine wpList_val rfl (HI1.out _ _ _ _ _ rfl rfl rfl) ?_)
                refine (HC1.out _).mono ?_
                rintro e w1 ⟨rfl, hw1⟩
                subst hw1
                go_wp2
                exact HPB.out _ HW.out HBD.out
              | some j =>
                rw [show ixZ d = (j : Int) by unfold ixZ; rw [hd]] at HC1
                have hj0 : ¬ ((j : Int) < 0) := by omega
                have hi := (hexC_hexV hc).2
                have hj := (hexC_hexV hd).2
                have HU2 : Hid (unhexL l = (unhexL m2).map ((acc ++ [UInt8.ofNat (16 * i + j)]) ++ ·)) := by
                  show _ = _
                  rw [HU.out, HUA.out i j _ hc hd rfl]
                  cases unhexL m2 <;> simp
                have h256 : 16 * i + j < 256 := by omega
                have hwk2 : IntKind.i64.wrap ((k : Int) + 2) = (k : Int) + 2 := IntWalk.i64_in _ (by omega)
                clear hc hd HUA HUB HU
                go_wp2_with (first | ((with_reducible show wpList _ _ _ (Oper.mk (some 17) _ _ _ _ _ :: _) _ _); refine wpList_val rfl (HLEN.out _ _ _ _ rfl rfl) ?_) | ((with_reducible show wpList _ _ _ (Oper.mk (some 23) _ _ _ _ _ :: _) _ _); refine wpList_val rfl (HI0.out _ _ _ _ _ rfl rfl rfl) ?_))
                refine (HC0.out _).mono ?_
                rintro e w1 ⟨rfl, hw1⟩
                subst hw1
                go_wp2_with ((with_reducible show wpList _ _ _ (Oper.mk (some 30) _ _ _ _ _ :: _) _ _); refine wpList_val rfl (HI1.out _ _ _ _ _ rfl rfl rfl) ?_)
                refine (HC1.out _).mono ?_
                rintro e w2 ⟨rfl, hw2⟩
                subst hw2
                go_upto_region 9 with fail
                have HWD := Lib.hid HW.out.drew
                have HOD := Lib.hid (ow_below HO.out (Below.refl _ w2).drew)
                have HSZ : Hid (w.heap.size ≤ w2.drew.heap.size) := HWD.out.size
                refine wp_region_held_drew (S := fun _ => True) (by kernel_rfl) trivial (fun hHeld => ?_)
                (refine takeW (i := 0) (v := ?_) rfl (by kernel_rfl) (by kernel_rfl) (by kernel_rfl) (fun _ _ _ h => h) (by rfl) (by assumption) ?_ ?_; rotate_left; (intro W hW; (try dsimp only at hW); go_simp; try with_reducible rfl); (try simp only [Act.put, List.setIfInBounds_toArray, List.set_cons_zero, List.set_cons_succ]))
                (refine takeW (i := 1) (v := ?_) rfl (by kernel_rfl) (by kernel_rfl) (by kernel_rfl) (fun _ _ _ h => h) (by rfl) (by assumption) ?_ ?_; rotate_left; (intro W hW; (try dsimp only at hW); go_simp; try with_reducible rfl); (try simp only [Act.put, List.setIfInBounds_toArray, List.set_cons_zero, List.set_cons_succ]))
                (refine takeW (i := 2) (v := ?_) rfl (by kernel_rfl) (by kernel_rfl) (by kernel_rfl) (fun _ _ _ h => h) (by rfl) (by assumption) ?_ ?_; rotate_left; (intro W hW; (try dsimp only at hW); go_simp; try with_reducible rfl); (try simp only [Act.put, List.setIfInBounds_toArray, List.set_cons_zero, List.set_cons_succ]))
                (refine takeW (i := 3) rfl (by kernel_rfl) (by kernel_rfl) (by kernel_rfl) (fun _ _ _ h => h) (by rfl) (by assumption) (fun W hW => HI0.out _ _ _ _ _ rfl rfl rfl) ?_; (try simp only [Act.put, List.setIfInBounds_toArray, List.set_cons_zero, List.set_cons_succ]))
                (refine takeW (i := 6) (v := ?_) rfl (by kernel_rfl) (by kernel_rfl) (by kernel_rfl) (fun _ _ _ h => h) (by rfl) (by assumption) ?_ ?_; rotate_left; (intro W hW; (try dsimp only at hW); go_simp; try with_reducible rfl); (try simp only [Act.put, List.setIfInBounds_toArray, List.set_cons_zero, List.set_cons_succ]))
                (refine takeW (i := 7) (v := ?_) rfl (by kernel_rfl) (by kernel_rfl) (by kernel_rfl) (fun _ _ _ h => h) (by rfl) (by assumption) ?_ ?_; rotate_left; (intro W hW; (try dsimp only at hW); go_simp; try with_reducible rfl); (try simp only [Act.put, List.setIfInBounds_toArray, List.set_cons_zero, List.set_cons_succ]))
                (refine takeW (i := 8) (v := ?_) rfl (by kernel_rfl) (by kernel_rfl) (by kernel_rfl) (fun _ _ _ h => h) (by rfl) (by assumption) ?_ ?_; rotate_left; (intro W hW; (try dsimp only at hW); go_simp; try with_reducible rfl); (try simp only [Act.put, List.setIfInBounds_toArray, List.set_cons_zero, List.set_cons_succ]))
                (refine takeW (i := 9) rfl (by kernel_rfl) (by kernel_rfl) (by kernel_rfl) (fun _ _ _ h => h) (by rfl) (by assumption) (fun W hW => HI1.out _ _ _ _ _ rfl rfl rfl) ?_; (try simp only [Act.put, List.setIfInBounds_toArray, List.set_cons_zero, List.set_cons_succ]))
                refine takeC (i := 4) rfl (by kernel_rfl) (by rfl) (fun K hK => ?_)
                go_simp
                refine (HC0.out _).mono ?_
                rintro e w1 ⟨rfl, hw1⟩
                subst hw1
                refine hK.out _ _ hHeld (fun hHeld => ?_)
                clear hK K
                (try simp only [Act.put, List.setIfInBounds_toArray, List.set_cons_zero, List.set_cons_succ])
                (refine takeW (i := 5) rfl (by kernel_rfl) (by kernel_rfl) (by kernel_rfl) (fun _ _ _ h => h) (by rfl) (by assumption) (fun W hW => exec_mul16 rfl rfl hi) ?_; (try simp only [Act.put, List.setIfInBounds_toArray, List.set_cons_zero, List.set_cons_succ]))
                refine takeC (i := 10) rfl (by kernel_rfl) (by rfl) (fun K hK => ?_)
                go_simp
                refine (HC1.out _).mono ?_
                rintro e w1 ⟨rfl, hw1⟩
                subst hw1
                refine hK.out _ _ hHeld (fun hHeld => ?_)
                clear hK K
                (try simp only [Act.put, List.setIfInBounds_toArray, List.set_cons_zero, List.set_cons_succ])
                (refine takeW (i := 11) rfl (by kernel_rfl) (by kernel_rfl) (by kernel_rfl) (fun _ _ _ h => h) (by rfl) (by assumption) (fun W hW => exec_addh rfl rfl rfl hi hj) ?_; (try simp only [Act.put, List.setIfInBounds_toArray, List.set_cons_zero, List.set_cons_succ]))
                (refine takeW (i := 12) rfl (by kernel_rfl) (by kernel_rfl) (by kernel_rfl) (fun _ _ _ h => h) (by rfl) (by assumption) (fun W hW => exec_cv8 (q := 16 * i + j) rfl rfl h256) ?_; (try simp only [Act.put, List.setIfInBounds_toArray, List.set_cons_zero, List.set_cons_succ]))
                refine takeV (i := 13) rfl (by kernel_rfl) (by rfl) (exec_oneS exec_one1 rfl rfl) trivial ?_
                (try simp only [Act.put, List.setIfInBounds_toArray, List.set_cons_zero, List.set_cons_succ])
                have hHeld : True := trivial
                refine takeApp (i := 14) E36 rfl (by kernel_rfl) (by rfl) rfl (HOD.out.alloc _) (m := 1) (news := [u8c (UInt8.ofNat (16 * i + j))]) rfl (news_one _ _) (by simp [u8c, Value.oneCell']) rfl rfl (by omega) (by have := HSZ.out; simp at this ⊢; omega) ?_
                intro v7 W5 ho5 hg5 _
                have HO5 := Lib.hid ho5
                have HW5 := Lib.hid (below_app (HWD.out.trans ((below1 _ _).mono HWD.out.size)) (Nat.le_refl _) (HOD.out.alloc _) hg5 (by have := HSZ.out; simp at this ⊢; omega))
                clear ho5 hg5
                refine ⟨trivial, ?_⟩
                (try simp only [Act.put, List.setIfInBounds_toArray, List.set_cons_zero, List.set_cons_succ])
                (refine takeW (i := 15) (v := ?_) rfl (by kernel_rfl) (by kernel_rfl) (by kernel_rfl) (fun _ _ _ h => h) (by rfl) (by assumption) ?_ ?_; rotate_left; (intro W hW; (try dsimp only at hW); go_simp; try with_reducible rfl); (try simp only [Act.put, List.setIfInBounds_toArray, List.set_cons_zero, List.set_cons_succ]))
                refine wpAnyH_done (by kernel_rfl) ?_ _
                clear hHeld
                go_wp2
                go_roundw
                case rel => exact ⟨k + 2, acc ++ [UInt8.ofNat (16 * i + j)], m2, by omega, by go_num, ⟨HM2.out.1, HM2.out.2.1, HM2.out.2.2, by simp; omega⟩, (by have := HO5.out; show World.ownsRow _ _ _ _ _ _ _; simpa using this), HW5, HU2⟩
                case measure => simp [intOf]; omega
    · have HBD : Hid (unhexW x = none) := by
        show _ = _
        unfold unhexW
        rw [HX.out, if_neg (by simp only [List.head?_cons, Option.some.injEq]; intro e; exact h120 (by rw [HCN.out, e]; rfl))]
      have hb : ((cn : Int) == 120) = false := by simp; omega
      clear h120
      go_enter Tryz.func51, Tryz.ntmps51
      go_wp2_with (first | ((with_reducible show wpList _ _ _ (Oper.mk (some 7) _ _ _ _ _ :: _) _ _); refine wpList_val rfl (HLEN.out _ _ _ _ rfl rfl) ?_) | ((with_reducible show wpList _ _ _ (Oper.mk (some 12) _ _ _ _ _ :: _) _ _); refine wpList_val rfl (HIX.out _ _ _ _ _ rfl rfl rfl) ?_))
      exact HPB.out _ (Below.refl _ _) HBD.out
  · have hm1 : (q : Int) % 2 = 0 := by omega
    have hm2 : (q : Int).tmod 2 = 0 := by rw [Int.tmod_eq_emod_of_nonneg (by omega)]; exact hm1
    have HBD : Hid (unhexW x = none) := by
      show _ = _
      unfold unhexW
      split
      · refine unhexL_odd ?_
        cases x with
        | nil => rename_i h; cases h
        | cons a l => have := HQ.out; simp at this ⊢; omega
      · rfl
    clear hodd
    go_enter Tryz.func51, Tryz.ntmps51
    go_wp2_with ((with_reducible show wpList _ _ _ (Oper.mk (some 7) _ _ _ _ _ :: _) _ _); refine wpList_val rfl (HLEN.out _ _ _ _ rfl rfl) ?_)
    exact HPB.out _ (Below.refl _ _) HBD.out
end Go.Proofs.YtkinhhkodaacjaaGreatDoor
namespace Go.Proofs.YtkinhhkodaacjaaGreatDoor
open Go.RowKit Go.Shelf

def encU (c : UInt8) : List Value := [u8c c]
theorem encU_len (c : UInt8) : (encU c).length = 1 := rfl
/-- Bytes that are read. -/
abbrev Bys (W : World) (v : Value) (l : List UInt8) : Prop := Rd encU 1 W v l
theorem and15 : ∀ n < 256, bits .and .u8 ((n : Nat) : Int) 15 = ((n % 16 : Nat) : Int) := by decide +kernel
theorem exec_and15 {w : World} {o : Oper} {ac : Act} {X : Operand} {ty : TypeId} {n : Nat} (ho : o.op = .binOp .and 5 X (.const (.int .u8 15)) ty) (hx : ac.eval X = .int .u8 (n : Int)) (h : n < 256) : (execOp ac.eval o).run Tryz.prog w = .ok (.value (.int .u8 ((n % 16 : Nat) : Int))) w := by
  have e := and15 n h
  have hc : ac.eval (.const (.int .u8 15)) = .int .u8 15 := rfl
  generalize ((n % 16 : Nat) : Int) = r at *
  generalize ac.eval = ev at *
  unfold execOp
  simp only [ho, hx, hc]
  go_simp
  try rw [e]
theorem exec_shr4 {w : World} {o : Oper} {ac : Act} {X : Operand} {ty : TypeId} {n : Nat} (ho : o.op = .binOp .shr 5 X (.const (.int .u64 4)) ty) (hx : ac.eval X = .int .u8 (n : Int)) : (execOp ac.eval o).run Tryz.prog w = .ok (.value (.int .u8 ((n / 16 : Nat) : Int))) w := by
  have e : (n : Int) / 16 = ((n / 16 : Nat) : Int) := by omega
  have hc : ac.eval (.const (.int .u64 4)) = .int .u64 4 := rfl
  generalize ((n / 16 : Nat) : Int) = r at *
  generalize ac.eval = ev at *
  unfold execOp
  simp only [ho, hx, hc]
  go_simp
  try rw [e]
theorem exec_ixu {w : World} {o : Oper} {ac : Act} {X Y : Operand} {l : List UInt8} {k : Nat} {c : UInt8} (ho : o.op = .index 9 X Y) (hx : ac.eval X = strV l) (hy : ac.eval Y = .int .u8 (k : Int)) (h : l[k]? = some c) : (execOp ac.eval o).run Tryz.prog w = .ok (.value (u8c c)) w := by
  obtain ⟨hk, e⟩ := List.getElem?_eq_some_iff.1 h
  have h1 := run_index_string (P := Tryz.prog) (w := w) 9 ⟨l.toArray⟩ .u8 (k : Int) Tryz.underlying9
  rw [dif_pos ⟨by omega, by rw [str_size]; omega⟩] at h1
  have e2 : ((⟨l.toArray⟩ : ByteArray)[((k : Int)).toNat]'(by rw [str_size]; omega)) = c := by
    show l.toArray[((k : Int)).toNat]'(by simp; omega) = c
    simp [e]
  rw [e2] at h1
  have h2 : (Instr.index 9 (strV l) (.int .u8 (k : Int))).run Tryz.prog w = .ok (u8c c) w := h1
  simp [execOp, ho, hx, hy, h2, Result.andThen]
theorem digs_at : ∀ k < 16, digsL[k]? = some (hexC k) := by decide
theorem exec_twoU {w : World} {o : Oper} {ac : Act} {X Y : Operand} {c d : UInt8} (ho : o.op = .buildSlice 44 2 #[(0, X), (1, Y)]) (hx : ac.eval X = u8c c) (hy : ac.eval Y = u8c d) : (execOp ac.eval o).run Tryz.prog w = .ok (.value (.slice (some ⟨w.heap.size, 0, none⟩) 2 2)) (w.alloc (.cells #[u8c c, u8c d] 5)) := by
  have hrun : (Instr.buildSlice 44 2 #[(0, u8c c), (1, u8c d)]).run Tryz.prog w = .ok (.slice (some ⟨w.heap.size, 0, none⟩) 2 2) (w.alloc (.cells #[u8c c, u8c d] 5)) := by
    unfold Instr.buildSlice u8c
    go_simp
    try rfl
  simp [execOp, ho, hx, hy, hrun, Result.andThen]
theorem news_two (w : World) (c d : UInt8) : ∀ (jj : Nat) (u : Value), ([u8c c, u8c d] : List Value)[jj]? = some u → (w.alloc (.cells #[u8c c, u8c d] 5)).cell? ((⟨w.heap.size, 0, none⟩ : Addr).add jj) = some u := fun jj u hu => by
  rw [Addr.add_lit, World.cell?_alloc_at _ _ _ _ rfl]
  simpa using hu
theorem own_one (w : World) (c : UInt8) : (w.alloc (.cells #[u8c c] 5)).ownsRow w.heap.size 5 1 (.slice (some ⟨w.heap.size, 0, none⟩) 1 1) [c].length ([c].map u8c) :=
  ⟨rfl, .inr ⟨w.heap.size, 1, _, rfl, Nat.le_refl _, (Blk.new' rfl : Blk _ w.heap.size 5 #[u8c c]), Nat.le_refl _, by unfold maxLen; omega, by simp, by simp⟩⟩
theorem hexW_snoc {B : List UInt8} {k : Nat} {c : UInt8} (h : B[k]? = some c) : hexW (B.take (k + 1)) = hexW (B.take k) ++ [hexC (c.toNat / 16), hexC (c.toNat % 16)] := by
  unfold hexW
  rw [take_snocB h, hexL_append]
  rfl
theorem str_own {X : World} {base n : Nat} {a : Option Addr} {cap : Nat} {l : List UInt8} {o : Oper} {ac : Act} {x : Operand} (h : X.ownsRow base 5 1 (.slice a n cap) n (l.map u8c)) (hn : l.length = n) (h1 : 0 < n) (ho : o.op = .convert 44 9 x) (hx : ac.eval x = .slice a n cap) : (execOp ac.eval o).run Tryz.prog X = .ok (.value (strV l)) X := by
  subst hn
  obtain ⟨_, _, e, _, _, h4⟩ := owns_shape h
  obtain ⟨g, hg, -⟩ := h4 (by omega)
  simp only [Value.slice.injEq] at e
  obtain ⟨rfl, _, rfl⟩ := e
  subst hg
  exact exec_str ho hx fun j hj => by
    rw [Addr.add_lit]
    have := h.cellAt j (by simpa using hj)
    simp only [Nat.zero_add]
    rw [this, List.getElem?_map, List.getElem?_eq_getElem hj]
    rfl
end Go.Proofs.YtkinhhkodaacjaaGreatDoor
