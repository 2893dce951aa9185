/- The document's Clean of faults. -/
import Derived.Test.YtmflnbdajaiahaaF11
namespace Go.Proofs.Ytmflnbdajaiahaa
open Go.RowKit Go.Shelf
open Md

def pm (m : Me) (x : Fa) : Bool := okM m && mayF m x
theorem errF_pm (m : Me) (x : Fa) : errF m x = if pm m x = true then 0 else if okM m then 150 else 70 := by
  unfold errF pm
  cases okM m <;> cases mayF m x <;> rfl
theorem cleanF_pm (m : Me) (l : List Fa) : cleanF m l = (l.filter (pm m)).foldl putF [] := by
  unfold cleanF pm cleanB
  cases okM m
  · have h : l.filter (fun _ : Fa => false) = [] := List.filter_eq_nil_iff.2 (by simp)
    simp [h]
  · simp
theorem putF_len (x : Fa) : ∀ l : List Fa, (putF l x).length ≤ l.length + 1
  | [] => Nat.le_refl _
  | y :: l => by
    have := putF_len x l
    unfold putF
    split
    · simp
    · split <;> simp <;> omega
theorem fold_len : ∀ (l R : List Fa), (l.foldl putF R).length ≤ l.length + R.length
  | [], R => by simp
  | y :: l, R => by
    have h1 := fold_len l (putF R y)
    have h2 := putF_len y R
    rw [List.foldl_cons]
    simp only [List.length_cons]
    omega
set_option maxRecDepth 100000 in
set_option maxHeartbeats 1600000 in
theorem rclean_any (m : Me) (v : Value) (l : List Fa) (w : World) (hm : GoodMe w m) (hv : Rd encF 7 w v l) (hl : l.length ≤ 8192) : Calls Try.prog 22 #[mev m, v] w (CleanPost m l w) := by
  have HP : Hid (∀ w' u R, Below w.heap.size w w' → R = cleanF m l → w'.ownsRow w.heap.size 33 7 u R.length (R.flatMap encF) → CleanPost m l w (.returned u) w') := fun w' u R h1 h2 h3 => by subst h2; exact ⟨⟨_, rfl, h3⟩, h1⟩
  generalize CleanPost m l w = POST at *
  have HV := Lib.hid hv
  have HG := Lib.hid hm
  obtain ⟨a, cap, rfl, hcap, hcm, -⟩ := hv.shape
  have HB0 := Lib.hid (below1 w (.cells (encMe m).toArray 25))
  have HM0 : Hid (Blk (w.alloc (.cells (encMe m).toArray 25)) w.heap.size 25 (encMe m).toArray) := Blk.new' rfl
  obtain ⟨n, hn⟩ : ∃ n, n = l.length := ⟨_, rfl⟩
  rw [← hn] at hl hcap HV ⊢
  have HN := Lib.hid hn
  clear hv hm hn
  change Calls Try.prog 22 #[.agg (encMe m).toArray, .slice a n cap] w POST
  go_enter Try.func22, Try.ntmps22
  go_upto_region 1 with fail
  change Code.wp _ _ _ _ (w.alloc (.cells (encMe m).toArray 25))
  have HC0 : Hid (CI w m [] (.slice none 0 0) (w.alloc (.cells (encMe m).toArray 25))) := ⟨HB0.out, HM0.out, World.ownsRow_nil _ _ _ _⟩
  generalize w.alloc (.cells (encMe m).toArray 25) = W0 at *
  clear HM0 HB0
  go_wp2_with fail
  go_loopw [5, 6] (fun u i wr => ∃ k : Nat, k ≤ n ∧ i = .int .i64 k ∧ Hid (CI w m (((l.take k).filter (pm m)).foldl putF []) u wr)) (fun _ i _ => n - (intOf i).toNat)
  case atStart => exact ⟨0, by omega, rfl, HC0⟩
  case round =>
    clear HC0
    obtain ⟨k, hk, rfl, HC⟩ := hrel
    obtain ⟨wo, rfl⟩ : ∃ wo : World, wo = wr := ⟨_, rfl⟩
    obtain ⟨R, hR⟩ : ∃ R, R = ((l.take k).filter (pm m)).foldl putF [] := ⟨_, rfl⟩
    rw [← hR] at HC
    have HRL : Hid (R.length ≤ k) := by
      show _ ≤ _
      rw [hR]
      have h1 := fold_len ((l.take k).filter (pm m)) []
      have h2 := List.length_filter_le (pm m) (l.take k)
      rw [List.length_take] at h2
      simp only [List.length_nil, Nat.add_zero] at h1
      omega
    have HRE := Lib.hid hR
    clear hR
    obtain ⟨ua, uc, hue, -⟩ := owns_shape HC.out.own
    subst hue
    by_cases hlt : k < n
    · obtain ⟨x, hx⟩ : ∃ x, l[k]? = some x := ⟨_, List.getElem?_eq_getElem (by have := HN.out; omega)⟩
      obtain ⟨bl, off, rfl, hbl, hc⟩ := (HV.out.below HC.out.bel).row (by rintro rfl; simp at hx)
      have HTK : Hid (((l.take (k + 1)).filter (pm m)).foldl putF [] = if pm m x = true then putF R x else R) := by
        show _ = _
        rw [take_snoc hx, List.filter_append, List.foldl_append, ← HRE.out]
        cases hq : pm m x <;> simp [hq]
      have hS : Hid (CI w m R (.slice ua R.length uc) wo.drew) ∧ Hid (∀ j u, (encF x)[j]? = some u → wo.drew.cell? ⟨bl, off + k * 7 + j, none⟩ = some u) := ⟨HC.out.keep (Below.refl _ _).drew, hc k x hx⟩
      have HGD : Hid (GoodMe wo.drew m) := HG.out.below HC.out.bel.drew
      have hlt2 : (k : Int) < (n : Int) := by omega
      clear hx hc HC
      go_upto_region 5 with fail
      refine wp_region_held_drew (S := fun X => Hid (CI w m R (.slice ua R.length uc) X) ∧ Hid (∀ j u, (encF x)[j]? = some u → X.cell? ⟨bl, off + k * 7 + j, none⟩ = some u)) (by kernel_rfl) hS (fun hHeld => ?_)
      (refine takeW (i := 0) rfl (by kernel_rfl) (by kernel_rfl) (by kernel_rfl) (fun _ _ _ h => h) (by rfl) (by assumption) (fun W hW => exec_loadW W25 rfl rfl (cs := encMe m) rfl hW.1.out.mm.list) ?_; (try simp only [Act.put, List.setIfInBounds_toArray, List.set_cons_zero, List.set_cons_succ]))
      (refine takeW (i := 1) (v := ?_) rfl (by kernel_rfl) (by kernel_rfl) (by kernel_rfl) (fun _ _ _ h => h) (by rfl) (by assumption) ?_ ?_; rotate_left; (intro W hW; (try dsimp only at hW); go_simp; try with_reducible rfl); (try simp only [Act.put, List.setIfInBounds_toArray, List.set_cons_zero, List.set_cons_succ]))
      (refine takeW (i := 2) (v := ?_) rfl (by kernel_rfl) (by kernel_rfl) (by kernel_rfl) (fun _ _ _ h => h) (by rfl) (by assumption) ?_ ?_; rotate_left; (intro W hW; (try dsimp only at hW); go_simp; try with_reducible rfl); (try simp only [Act.put, List.setIfInBounds_toArray, List.set_cons_zero, List.set_cons_succ]))
      (refine takeW (i := 3) (v := ?_) rfl (by kernel_rfl) (by kernel_rfl) (by kernel_rfl) (fun _ _ _ h => h) (by rfl) (by assumption) ?_ ?_; rotate_left; (intro W hW; (try dsimp only at hW); go_simp; try with_reducible rfl); (try simp only [Act.put, List.setIfInBounds_toArray, List.set_cons_zero, List.set_cons_succ]))
      (refine takeW (i := 4) rfl (by kernel_rfl) (by kernel_rfl) (by kernel_rfl) (fun _ _ _ h => h) (by rfl) (by assumption) (fun W hW => exec_loadW W33 rfl rfl (cs := encF x) rfl hW.2.out) ?_; (try simp only [Act.put, List.setIfInBounds_toArray, List.set_cons_zero, List.set_cons_succ]))
      refine takeC (i := 5) rfl (by kernel_rfl) (by rfl) (fun K hK => ?_)
      go_simp
      refine (rcheck_any m x wo.drew HGD.out).mono ?_
      rintro e W2 ⟨rfl, hb⟩
      have HB2 := Lib.hid hb
      refine hK.out _ _ ⟨Lib.hid (hHeld.1.out.keep hb), Lib.hid (fun j u hu => keepCell hb (hHeld.2.out j u hu))⟩ (fun hHeld => ?_)
      clear hb hK K
      try simp only [Act.put, List.setIfInBounds_toArray, List.set_cons_zero, List.set_cons_succ]
      (refine takeW (i := 6) (v := ?_) rfl (by kernel_rfl) (by kernel_rfl) (by kernel_rfl) (fun _ _ _ h => h) (by rfl) (by assumption) ?_ ?_; rotate_left; (intro W hW; (try dsimp only at hW); go_simp; try with_reducible rfl); (try simp only [Act.put, List.setIfInBounds_toArray, List.set_cons_zero, List.set_cons_succ]))
      refine wpAnyH_done (by kernel_rfl) ?_ _
      clear hS
      by_cases hmx : pm m x = true
      · have HER : Hid ((errF m x == 0) = true) := by show _ = _; rw [errF_pm, if_pos hmx]; rfl
        have HTK2 : Hid (((l.take (k + 1)).filter (pm m)).foldl putF [] = putF R x) := by show _ = _; rw [HTK.out, if_pos hmx]
        rw [HER.out]
        clear hmx HTK HER
        go_wp2_with ((with_reducible show wpList _ _ _ (Oper.mk (some 24) _ _ _ _ _ :: _) _ _); refine wpList_loadW W33 rfl rfl rfl (encF x) rfl hHeld.2.out ?_)
        refine (rput_any (.slice ua R.length uc) R x W2 (Rd.of_owns encF_len hHeld.1.out.own (by have := HRL.out; omega)) (by have := HRL.out; omega)).mono ?_
        rintro e W3 ⟨v3, rfl, ho3, hb3⟩
        have HC3 : Hid (CI w m (putF R x) v3 W3) := by
          have hc := hHeld.1.out.keep hb3
          exact ⟨hc.bel, hc.mm, ownsRow_mono ho3 hHeld.1.out.bel.size⟩
        clear ho3 hb3
        go_wp2
        go_roundw
        case rel => exact ⟨k + 1, by omega, by go_num, by rw [HTK2.out]; exact HC3⟩
        case measure => simp [intOf]; omega
      · have HER : Hid ((errF m x == 0) = false) := by show _ = _; rw [errF_pm, if_neg hmx, beq_eq_false_iff_ne]; split <;> decide
        have HTK2 : Hid (((l.take (k + 1)).filter (pm m)).foldl putF [] = R) := by show _ = _; rw [HTK.out, if_neg hmx]
        rw [HER.out]
        clear hmx HTK HER
        go_wp2
        go_roundw
        case rel => exact ⟨k + 1, by omega, by go_num, by rw [HTK2.out]; exact hHeld.1⟩
        case measure => simp [intOf]; omega
    · obtain rfl : n = k := by omega
      have HEQ : Hid (R = cleanF m l) := by show _ = _; rw [cleanF_pm, HRE.out, List.take_of_length_le (by have := HN.out; omega)]
      clear hlt hk HRE
      go_wp2
      exact HP.out _ _ _ HC.out.bel HEQ.out HC.out.own
end Go.Proofs.Ytmflnbdajaiahaa
