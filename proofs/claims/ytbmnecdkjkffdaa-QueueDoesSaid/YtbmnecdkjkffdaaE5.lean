/- rise: an event goes up to its place. -/
import Derived.Test.YtbmnecdkjkffdaaE4
import Derived.ScopeJumps
import Derived.WalkMore
namespace Go.Proofs.Ytbmnecdkjkffdaa
open Go.RowKit

/-- A scope whose label is its beginning, and in which the run jumps back to it: one walk. -/
theorem wp_scope_again {P : Program} {a : Act} {w : World} {Q : Exit → Act → World → Prop} {rest c' : Code} (l : Nat) (J : Act → World → Prop) (μ : Act → World → Nat) (hf : findLabel ((Code.label l).seq rest) l = some c')
    (hc : ∀ Q' a w, rest.wp P Q' a w → c'.wp P Q' a w) (h0 : J a w)
    (pass : ∀ a w, J a w → rest.wp P (Exit.jump l (fun a' w' => J a' w' ∧ μ a' w' < μ a w) Q) a w) : (Code.scope ((Code.label l).seq rest)).wp P Q a w := by
  refine wp_scope_jumps l J μ hf ?_ (fun a w h => hc _ _ _ (pass a w h))
  apply wp_seq
  apply wp_label
  refine wp_mono (pass a w h0) ?_
  intro e a w h
  cases e <;> first | exact h | exact ⟨h.1, h.2.1⟩
def lessAt (l : List Ev) (i j : Nat) : Bool := match l[i]?, l[j]? with | some x, some y => ltE x y | _, _ => false
def swapL (l : List Ev) (i j : Nat) : List Ev := match l[i]?, l[j]? with | some x, some y => (l.set i y).set j x | _, _ => l
theorem swapL_len (l : List Ev) (i j : Nat) : (swapL l i j).length = l.length := by
  unfold swapL
  split <;> simp
/-- What rise does to a row. -/
def riseL (l : List Ev) (i : Nat) : List Ev :=
  if h : 0 < i ∧ lessAt l i ((i - 1) / 2) = true then riseL (swapL l i ((i - 1) / 2)) ((i - 1) / 2) else l
termination_by i
decreasing_by omega
theorem riseL_len (l : List Ev) (i : Nat) : (riseL l i).length = l.length := by
  induction i using Nat.strongRecOn generalizing l with
  | _ i ih =>
    rw [riseL]
    split
    · rename_i h
      rw [ih _ (by omega), swapL_len]
    · rfl

theorem qu_shape {w : World} {q : Nat} {sv : Value} {l : List Ev} {now : Int} (h : Qu w q sv l now) (h0 : 0 < l.length) : ∃ g cap n, sv = .slice (some ⟨g, 0, none⟩) n cap ∧ n ≤ cap ∧ cap ≤ 9223372036854775807 ∧ l.length = n := by
  obtain ⟨a, cap, rfl, h1, h2, h3⟩ := owns_shape h.2
  obtain ⟨g, rfl, -⟩ := h3 (by omega)
  exact ⟨g, cap, _, rfl, h1, h2, rfl⟩
theorem qu_at {w : World} {q g n cap : Nat} {l : List Ev} {now : Int} (hl : l.length ≤ 16384) (h : Qu w q (.slice (some ⟨g, 0, none⟩) n cap) l now) {k : Nat} {x : Ev} (hx : l[k]? = some x) : ∀ j u, (encE x)[j]? = some u → w.cell? ⟨g, k * 4 + j, none⟩ = some u := by
  obtain ⟨b, off, he, hb, hc⟩ := (Rd.of_owns encE_len h.2 (by omega)).row (by rintro rfl; simp at hx)
  cases he
  intro j u hu
  have := hc k x hx j u hu
  rwa [Nat.zero_add] at this

/-- A store into an owned row, in a region. -/
theorem takeStoreOwn {α : Type} {enc : α → List Value} {size : Nat} {P : Program} {ops : List Oper} {Q : Exit → Act → World → Prop} {md : Region.Mode} {S : World → Prop} {i : Nat} {oi : Oper} {r : List Oper} {fuel : Nat} {listed : Array Bool} {a : Act} {w : World} {t : TypeId} {base : Nat}
    (hw : Wide P t size) (hs : ∀ x, (enc x).length = size) (h1 : ∀ x, ∀ u ∈ enc x, u.oneCell' = true) (hi : ops.drop i = oi :: r)
    (hr : Region.ready md ops.toArray listed = [i]) (hwn : Region.wanted oi (yielded ops.toArray a.tmps) = true) {x y : Operand} (ho : oi.op = .store t x y) {L : List α} {g n cap k : Nat} (hn : L.length = n)
    (hown : w.ownsRow base t size (.slice (some ⟨g, 0, none⟩) n cap) n (L.flatMap enc)) (hx : a.eval x = .pointer (some ⟨g, k * size, none⟩)) {u : α} (hy : a.eval y = .agg (enc u).toArray) (hk : k < n)
    (h : ∀ w', w'.ownsRow base t size (.slice (some ⟨g, 0, none⟩) n cap) n ((L.set k u).flatMap enc) → w.grownBy w' (some g) → S w' ∧ wpAnyH P md ops.toArray Q S fuel (listed.setIfInBounds i true) (a.put oi.dst undef) w') :
    wpAnyH P md ops.toArray Q S (fuel + 1) listed a w := by
  obtain ⟨w', hrun, q1, q2⟩ := exec_storeOwn (P := P) (w := w) (o := oi) (a := a) hw hs h1 hn hown ho hx hy hk
  obtain ⟨g1, g2⟩ := h w' q1 q2
  exact takeVs hi hr hwn hrun g1 g2

set_option maxRecDepth 100000 in
set_option maxHeartbeats 1600000 in
theorem rise_any (q : Nat) (sv : Value) (l : List Ev) (now : Int) (i : Nat) (w : World) (h : Qu w q sv l now) (hi : i < l.length) (hl : l.length ≤ 16384) :
    Calls Try.prog 26 #[.pointer (some ⟨q, 0, none⟩), .int .i64 i] w fun e w' => e = .returned (.tuple #[]) ∧ Qu w' q sv (riseL l i) now ∧ QK w w' q sv := by
  have HP : Hid (∀ w', Qu w' q sv (riseL l i) now → QK w w' q sv → (fun e w' => e = Ending.returned (.tuple #[]) ∧ Qu w' q sv (riseL l i) now ∧ QK w w' q sv) (.returned (.tuple #[])) w') := fun w' h1 h2 => ⟨rfl, h1, h2⟩
  have HQ := Lib.hid h
  have hlen := hl
  have HLL : Hid (l.length ≤ 16384) := hl
  clear h hl hlen
  go_enter Try.func26, Try.ntmps26
  go_wp2
  refine wp_scope_again 0 (fun a' W => ∃ (i' : Nat) (l' : List Ev) (u2 u3 u4 u5 u6 u7 u8 u9 u10 u11 u12 u13 u14 u15 u16 u17 u18 u19 u20 u21 u22 u23 u24 u25 u26 u27 u28 u29 u30 u31 u32 u33 u34 u35 u36 u37 u38 u39 u40 u41 u42 u43 u44 u45 u46 u47 u48 u49 u50 u51 u52 u53 : Value), a' = { tmps := #[.pointer (some ⟨q, 0, none⟩), .int .i64 (i' : Nat), u2, u3, u4, u5, u6, u7, u8, u9, u10, u11, u12, u13, u14, u15, u16, u17, u18, u19, u20, u21, u22, u23, u24, u25, u26, u27, u28, u29, u30, u31, u32, u33, u34, u35, u36, u37, u38, u39, u40, u41, u42, u43, u44, u45, u46, u47, u48, u49, u50, u51, u52, u53], defers := [] } ∧ Hid (Qu W q sv l' now) ∧ Hid (QK w W q sv) ∧ Hid (riseL l' i' = riseL l i) ∧ i' < l'.length ∧ Hid (l'.length = l.length)) (fun a' _ => (match a'.tmps.getD 1 undef with | .int _ n => n.toNat | _ => 0)) rfl (fun _ _ _ h => by apply wp_seq; apply wp_skip; exact h) ?_ ?_
  · exact ⟨i, l, _, _, _, _, _, _, _, _, _, _, _, _, _, _, _, _, _, _, _, _, _, _, _, _, _, _, _, _, _, _, _, _, _, _, _, _, _, _, _, _, _, _, _, _, _, _, _, _, _, _, _, _, rfl, HQ, QK.refl _ _ _, rfl, hi, rfl⟩
  · rintro a W ⟨j, l', u2, u3, u4, u5, u6, u7, u8, u9, u10, u11, u12, u13, u14, u15, u16, u17, u18, u19, u20, u21, u22, u23, u24, u25, u26, u27, u28, u29, u30, u31, u32, u33, u34, u35, u36, u37, u38, u39, u40, u41, u42, u43, u44, u45, u46, u47, u48, u49, u50, u51, u52, u53, rfl, HQU, HQK, HR, hj, HL⟩
    clear hi
    have hj2 : j < 16384 := by have := HL.out; have := HLL.out; omega
    by_cases h0 : j = 0
    · subst h0
      have hS : Hid (Qu W.drew q sv l' now) ∧ Hid (QK w W.drew q sv) := ⟨HQU.out.gw (Gw.refl _).drew, HQK.out.gw (Gw.refl _).drew⟩
      have HFin : Hid (Qu W.drew q sv (riseL l i) now ∧ QK w W.drew q sv) := by
        have e : riseL l' 0 = l' := by rw [riseL]; simp
        have h := hS
        rw [← HR.out, e]
        exact ⟨h.1.out, h.2.out⟩
      go_upto_region 1 with fail
      refine wp_region_held_drew (S := fun X => Hid (Qu X q sv l' now) ∧ Hid (QK w X q sv)) (by kernel_rfl) hS (fun hHeld => ?_)
      (refine takeW (i := 0) (v := ?_) rfl (by kernel_rfl) (by kernel_rfl) (by kernel_rfl) (fun _ _ _ h => h) (by rfl) (by assumption) ?_ ?_; rotate_left; (intro W hW; (try dsimp only at hW); go_simp; try with_reducible rfl); (try simp only [Act.put, List.setIfInBounds_toArray, List.set_cons_zero, List.set_cons_succ]))
      (refine takeW (i := 1) (v := ?_) rfl (by kernel_rfl) (by kernel_rfl) (by kernel_rfl) (fun _ _ _ h => h) (by rfl) (by assumption) ?_ ?_; rotate_left; (intro W hW; (try dsimp only at hW); go_simp; try with_reducible rfl); (try simp only [Act.put, List.setIfInBounds_toArray, List.set_cons_zero, List.set_cons_succ]))
      (refine takeW (i := 2) (v := ?_) rfl (by kernel_rfl) (by kernel_rfl) (by kernel_rfl) (fun _ _ _ h => h) (by rfl) (by assumption) ?_ ?_; rotate_left; (intro W hW; (try dsimp only at hW); go_simp; try with_reducible rfl); (try simp only [Act.put, List.setIfInBounds_toArray, List.set_cons_zero, List.set_cons_succ]))
      first
        | (refine takeW (i := 3) (v := ?_) rfl (by kernel_rfl) (by kernel_rfl) (by kernel_rfl) (fun _ _ _ h => h) (by rfl) (by assumption) ?_ ?_; rotate_left; (intro W hW; (try dsimp only at hW); go_simp; try with_reducible rfl); (try simp only [Act.put, List.setIfInBounds_toArray, List.set_cons_zero, List.set_cons_succ]))
        | (refine takeU (i := 3) rfl (by kernel_rfl) (by kernel_rfl) (by kernel_rfl) (fun _ _ _ h => h) (by rfl) (by assumption) ?_; (try simp only [Act.put, List.setIfInBounds_toArray, List.set_cons_zero, List.set_cons_succ]))
      first
        | (refine takeW (i := 4) (v := ?_) rfl (by kernel_rfl) (by kernel_rfl) (by kernel_rfl) (fun _ _ _ h => h) (by rfl) (by assumption) ?_ ?_; rotate_left; (intro W hW; (try dsimp only at hW); go_simp; try with_reducible rfl); (try simp only [Act.put, List.setIfInBounds_toArray, List.set_cons_zero, List.set_cons_succ]))
        | (refine takeU (i := 4) rfl (by kernel_rfl) (by kernel_rfl) (by kernel_rfl) (fun _ _ _ h => h) (by rfl) (by assumption) ?_; (try simp only [Act.put, List.setIfInBounds_toArray, List.set_cons_zero, List.set_cons_succ]))
      first
        | (refine takeW (i := 5) (v := ?_) rfl (by kernel_rfl) (by kernel_rfl) (by kernel_rfl) (fun _ _ _ h => h) (by rfl) (by assumption) ?_ ?_; rotate_left; (intro W hW; (try dsimp only at hW); go_simp; try with_reducible rfl); (try simp only [Act.put, List.setIfInBounds_toArray, List.set_cons_zero, List.set_cons_succ]))
        | (refine takeU (i := 5) rfl (by kernel_rfl) (by kernel_rfl) (by kernel_rfl) (fun _ _ _ h => h) (by rfl) (by assumption) ?_; (try simp only [Act.put, List.setIfInBounds_toArray, List.set_cons_zero, List.set_cons_succ]))
      first
        | (refine takeW (i := 6) (v := ?_) rfl (by kernel_rfl) (by kernel_rfl) (by kernel_rfl) (fun _ _ _ h => h) (by rfl) (by assumption) ?_ ?_; rotate_left; (intro W hW; (try dsimp only at hW); go_simp; try with_reducible rfl); (try simp only [Act.put, List.setIfInBounds_toArray, List.set_cons_zero, List.set_cons_succ]))
        | (refine takeU (i := 6) rfl (by kernel_rfl) (by kernel_rfl) (by kernel_rfl) (fun _ _ _ h => h) (by rfl) (by assumption) ?_; (try simp only [Act.put, List.setIfInBounds_toArray, List.set_cons_zero, List.set_cons_succ]))
      first
        | (refine takeW (i := 7) (v := ?_) rfl (by kernel_rfl) (by kernel_rfl) (by kernel_rfl) (fun _ _ _ h => h) (by rfl) (by assumption) ?_ ?_; rotate_left; (intro W hW; (try dsimp only at hW); go_simp; try with_reducible rfl); (try simp only [Act.put, List.setIfInBounds_toArray, List.set_cons_zero, List.set_cons_succ]))
        | (refine takeU (i := 7) rfl (by kernel_rfl) (by kernel_rfl) (by kernel_rfl) (fun _ _ _ h => h) (by rfl) (by assumption) ?_; (try simp only [Act.put, List.setIfInBounds_toArray, List.set_cons_zero, List.set_cons_succ]))
      first
        | (refine takeW (i := 8) (v := ?_) rfl (by kernel_rfl) (by kernel_rfl) (by kernel_rfl) (fun _ _ _ h => h) (by rfl) (by assumption) ?_ ?_; rotate_left; (intro W hW; (try dsimp only at hW); go_simp; try with_reducible rfl); (try simp only [Act.put, List.setIfInBounds_toArray, List.set_cons_zero, List.set_cons_succ]))
        | (refine takeU (i := 8) rfl (by kernel_rfl) (by kernel_rfl) (by kernel_rfl) (fun _ _ _ h => h) (by rfl) (by assumption) ?_; (try simp only [Act.put, List.setIfInBounds_toArray, List.set_cons_zero, List.set_cons_succ]))
      first
        | (refine takeW (i := 9) (v := ?_) rfl (by kernel_rfl) (by kernel_rfl) (by kernel_rfl) (fun _ _ _ h => h) (by rfl) (by assumption) ?_ ?_; rotate_left; (intro W hW; (try dsimp only at hW); go_simp; try with_reducible rfl); (try simp only [Act.put, List.setIfInBounds_toArray, List.set_cons_zero, List.set_cons_succ]))
        | (refine takeU (i := 9) rfl (by kernel_rfl) (by kernel_rfl) (by kernel_rfl) (fun _ _ _ h => h) (by rfl) (by assumption) ?_; (try simp only [Act.put, List.setIfInBounds_toArray, List.set_cons_zero, List.set_cons_succ]))
      first
        | (refine takeW (i := 10) (v := ?_) rfl (by kernel_rfl) (by kernel_rfl) (by kernel_rfl) (fun _ _ _ h => h) (by rfl) (by assumption) ?_ ?_; rotate_left; (intro W hW; (try dsimp only at hW); go_simp; try with_reducible rfl); (try simp only [Act.put, List.setIfInBounds_toArray, List.set_cons_zero, List.set_cons_succ]))
        | (refine takeU (i := 10) rfl (by kernel_rfl) (by kernel_rfl) (by kernel_rfl) (fun _ _ _ h => h) (by rfl) (by assumption) ?_; (try simp only [Act.put, List.setIfInBounds_toArray, List.set_cons_zero, List.set_cons_succ]))
      first
        | (refine takeW (i := 11) (v := ?_) rfl (by kernel_rfl) (by kernel_rfl) (by kernel_rfl) (fun _ _ _ h => h) (by rfl) (by assumption) ?_ ?_; rotate_left; (intro W hW; (try dsimp only at hW); go_simp; try with_reducible rfl); (try simp only [Act.put, List.setIfInBounds_toArray, List.set_cons_zero, List.set_cons_succ]))
        | (refine takeU (i := 11) rfl (by kernel_rfl) (by kernel_rfl) (by kernel_rfl) (fun _ _ _ h => h) (by rfl) (by assumption) ?_; (try simp only [Act.put, List.setIfInBounds_toArray, List.set_cons_zero, List.set_cons_succ]))
      first
        | (refine takeW (i := 12) (v := ?_) rfl (by kernel_rfl) (by kernel_rfl) (by kernel_rfl) (fun _ _ _ h => h) (by rfl) (by assumption) ?_ ?_; rotate_left; (intro W hW; (try dsimp only at hW); go_simp; try with_reducible rfl); (try simp only [Act.put, List.setIfInBounds_toArray, List.set_cons_zero, List.set_cons_succ]))
        | (refine takeU (i := 12) rfl (by kernel_rfl) (by kernel_rfl) (by kernel_rfl) (fun _ _ _ h => h) (by rfl) (by assumption) ?_; (try simp only [Act.put, List.setIfInBounds_toArray, List.set_cons_zero, List.set_cons_succ]))
      first
        | (refine takeW (i := 13) (v := ?_) rfl (by kernel_rfl) (by kernel_rfl) (by kernel_rfl) (fun _ _ _ h => h) (by rfl) (by assumption) ?_ ?_; rotate_left; (intro W hW; (try dsimp only at hW); go_simp; try with_reducible rfl); (try simp only [Act.put, List.setIfInBounds_toArray, List.set_cons_zero, List.set_cons_succ]))
        | (refine takeU (i := 13) rfl (by kernel_rfl) (by kernel_rfl) (by kernel_rfl) (fun _ _ _ h => h) (by rfl) (by assumption) ?_; (try simp only [Act.put, List.setIfInBounds_toArray, List.set_cons_zero, List.set_cons_succ]))
      first
        | (refine takeW (i := 14) (v := ?_) rfl (by kernel_rfl) (by kernel_rfl) (by kernel_rfl) (fun _ _ _ h => h) (by rfl) (by assumption) ?_ ?_; rotate_left; (intro W hW; (try dsimp only at hW); go_simp; try with_reducible rfl); (try simp only [Act.put, List.setIfInBounds_toArray, List.set_cons_zero, List.set_cons_succ]))
        | (refine takeU (i := 14) rfl (by kernel_rfl) (by kernel_rfl) (by kernel_rfl) (fun _ _ _ h => h) (by rfl) (by assumption) ?_; (try simp only [Act.put, List.setIfInBounds_toArray, List.set_cons_zero, List.set_cons_succ]))
      first
        | (refine takeW (i := 15) (v := ?_) rfl (by kernel_rfl) (by kernel_rfl) (by kernel_rfl) (fun _ _ _ h => h) (by rfl) (by assumption) ?_ ?_; rotate_left; (intro W hW; (try dsimp only at hW); go_simp; try with_reducible rfl); (try simp only [Act.put, List.setIfInBounds_toArray, List.set_cons_zero, List.set_cons_succ]))
        | (refine takeU (i := 15) rfl (by kernel_rfl) (by kernel_rfl) (by kernel_rfl) (fun _ _ _ h => h) (by rfl) (by assumption) ?_; (try simp only [Act.put, List.setIfInBounds_toArray, List.set_cons_zero, List.set_cons_succ]))
      first
        | (refine takeW (i := 16) (v := ?_) rfl (by kernel_rfl) (by kernel_rfl) (by kernel_rfl) (fun _ _ _ h => h) (by rfl) (by assumption) ?_ ?_; rotate_left; (intro W hW; (try dsimp only at hW); go_simp; try with_reducible rfl); (try simp only [Act.put, List.setIfInBounds_toArray, List.set_cons_zero, List.set_cons_succ]))
        | (refine takeU (i := 16) rfl (by kernel_rfl) (by kernel_rfl) (by kernel_rfl) (fun _ _ _ h => h) (by rfl) (by assumption) ?_; (try simp only [Act.put, List.setIfInBounds_toArray, List.set_cons_zero, List.set_cons_succ]))
      first
        | (refine takeW (i := 17) (v := ?_) rfl (by kernel_rfl) (by kernel_rfl) (by kernel_rfl) (fun _ _ _ h => h) (by rfl) (by assumption) ?_ ?_; rotate_left; (intro W hW; (try dsimp only at hW); go_simp; try with_reducible rfl); (try simp only [Act.put, List.setIfInBounds_toArray, List.set_cons_zero, List.set_cons_succ]))
        | (refine takeU (i := 17) rfl (by kernel_rfl) (by kernel_rfl) (by kernel_rfl) (fun _ _ _ h => h) (by rfl) (by assumption) ?_; (try simp only [Act.put, List.setIfInBounds_toArray, List.set_cons_zero, List.set_cons_succ]))
      (refine takeW (i := 18) (v := ?_) rfl (by kernel_rfl) (by kernel_rfl) (by kernel_rfl) (fun _ _ _ h => h) (by rfl) (by assumption) ?_ ?_; rotate_left; (intro W hW; (try dsimp only at hW); go_simp; try with_reducible rfl); (try simp only [Act.put, List.setIfInBounds_toArray, List.set_cons_zero, List.set_cons_succ]))
      refine wpAnyH_done (by kernel_rfl) ?_ _
      go_wp2
      simp only [Exit.jump]
      go_end0
      exact ⟨rfl, HFin.out.1, HFin.out.2⟩
    · obtain ⟨k, hk⟩ : ∃ k, j = k + 1 := ⟨j - 1, by omega⟩
      obtain ⟨m, hm⟩ : ∃ m, m = k / 2 := ⟨_, rfl⟩
      have e1 : (j : Int) - 1 = (k : Int) := by omega
      have e2 : (k : Int) / 2 = (m : Int) := by omega
      have e3 : decide ((0 : Int) < (j : Int)) = true := decide_eq_true (by omega)
      have e4 : decide (0 < j) = true := decide_eq_true (by omega)
      have hm1 : m < j := by omega
      have hm2 : m < l'.length := by omega
      obtain ⟨x, hx⟩ : ∃ x, l'[j]? = some x := ⟨_, List.getElem?_eq_getElem hj⟩
      obtain ⟨y, hy⟩ : ∃ y, l'[m]? = some y := ⟨_, List.getElem?_eq_getElem hm2⟩
      have HLE := Lib.hid (less_any x y)
      have HRL : Hid (riseL l' j = if ltE x y = true then riseL (swapL l' j m) m else l') := by
        show _ = _
        rw [riseL, show (j - 1) / 2 = m by omega]
        simp only [lessAt, hx, hy]
        have h0' : 0 < j := by omega
        by_cases hb : ltE x y = true <;> simp [hb, h0']
      have hS : Hid (Qu W.drew q sv l' now) ∧ Hid (QK w W.drew q sv) := ⟨HQU.out.gw (Gw.refl _).drew, HQK.out.gw (Gw.refl _).drew⟩
      obtain ⟨g, cap, n, rfl, hcap, hcm, hn⟩ := qu_shape HQU.out (by omega : 0 < l'.length)
      have HX := Lib.hid (fun X hX => qu_at (by have := HL.out; have := HLL.out; omega) (w := X) (q := q) (g := g) (n := n) (cap := cap) (now := now) hX hx)
      have HY := Lib.hid (fun X hX => qu_at (by have := HL.out; have := HLL.out; omega) (w := X) (q := q) (g := g) (n := n) (cap := cap) (now := now) hX hy)
      have HSW : Hid (swapL l' j m = (l'.set j y).set m x) := by show _ = _; unfold swapL; rw [hx, hy]
      have HN := Lib.hid hn
      generalize ltE x y = b at *
      rw [hn] at hj hm2
      clear hx hy hm hk h0 hn
      go_upto_region 1 with fail
      refine wp_region_held_drew (S := fun X => Hid (Qu X q (.slice (some ⟨g, 0, none⟩) n cap) l' now) ∧ Hid (QK w X q (.slice (some ⟨g, 0, none⟩) n cap))) (by kernel_rfl) hS (fun hHeld => ?_)
      (refine takeW (i := 0) (v := ?_) rfl (by kernel_rfl) (by kernel_rfl) (by kernel_rfl) (fun _ _ _ h => h) (by rfl) (by assumption) ?_ ?_; rotate_left; (intro W hW; (try dsimp only at hW); go_simp; try with_reducible rfl); (try simp only [Act.put, List.setIfInBounds_toArray, List.set_cons_zero, List.set_cons_succ]))
      (refine takeW (i := 1) (v := ?_) rfl (by kernel_rfl) (by kernel_rfl) (by kernel_rfl) (fun _ _ _ h => h) (by rfl) (by assumption) ?_ ?_; rotate_left; (intro W hW; (try dsimp only at hW); go_simp; try with_reducible rfl); (try simp only [Act.put, List.setIfInBounds_toArray, List.set_cons_zero, List.set_cons_succ]))
      (refine takeW (i := 2) (v := ?_) rfl (by kernel_rfl) (by kernel_rfl) (by kernel_rfl) (fun _ _ _ h => h) (by rfl) (by assumption) ?_ ?_; rotate_left; (intro W hW; (try dsimp only at hW); go_simp; try with_reducible rfl); (try simp only [Act.put, List.setIfInBounds_toArray, List.set_cons_zero, List.set_cons_succ]))
      first
        | (refine takeW (i := 3) (v := ?_) rfl (by kernel_rfl) (by kernel_rfl) (by kernel_rfl) (fun _ _ _ h => h) (by rfl) (by assumption) ?_ ?_; rotate_left; (intro W hW; (try dsimp only at hW); go_simp; try with_reducible rfl); (try simp only [Act.put, List.setIfInBounds_toArray, List.set_cons_zero, List.set_cons_succ]))
        | (refine takeU (i := 3) rfl (by kernel_rfl) (by kernel_rfl) (by kernel_rfl) (fun _ _ _ h => h) (by rfl) (by assumption) ?_; (try simp only [Act.put, List.setIfInBounds_toArray, List.set_cons_zero, List.set_cons_succ]))
      first
        | (refine takeW (i := 4) (v := ?_) rfl (by kernel_rfl) (by kernel_rfl) (by kernel_rfl) (fun _ _ _ h => h) (by rfl) (by assumption) ?_ ?_; rotate_left; (intro W hW; (try dsimp only at hW); go_simp; try with_reducible rfl); (try simp only [Act.put, List.setIfInBounds_toArray, List.set_cons_zero, List.set_cons_succ]))
        | (refine takeU (i := 4) rfl (by kernel_rfl) (by kernel_rfl) (by kernel_rfl) (fun _ _ _ h => h) (by rfl) (by assumption) ?_; (try simp only [Act.put, List.setIfInBounds_toArray, List.set_cons_zero, List.set_cons_succ]))
      first
        | (refine takeW (i := 5) (v := ?_) rfl (by kernel_rfl) (by kernel_rfl) (by kernel_rfl) (fun _ _ _ h => h) (by rfl) (by assumption) ?_ ?_; rotate_left; (intro W hW; (try dsimp only at hW); go_simp; try with_reducible rfl); (try simp only [Act.put, List.setIfInBounds_toArray, List.set_cons_zero, List.set_cons_succ]))
        | (refine takeU (i := 5) rfl (by kernel_rfl) (by kernel_rfl) (by kernel_rfl) (fun _ _ _ h => h) (by rfl) (by assumption) ?_; (try simp only [Act.put, List.setIfInBounds_toArray, List.set_cons_zero, List.set_cons_succ]))
      (refine takeW (i := 6) rfl (by kernel_rfl) (by kernel_rfl) (by kernel_rfl) (fun _ _ _ h => h) (by rfl) (by assumption) (fun W hW => exec_load1 (v := (.slice (some ⟨g, 0, none⟩) n cap)) F22 rfl rfl (hW.1.out.1.cell 1)) ?_; (try simp only [Act.put, List.setIfInBounds_toArray, List.set_cons_zero, List.set_cons_succ]))
      first
        | (refine takeW (i := 7) (v := ?_) rfl (by kernel_rfl) (by kernel_rfl) (by kernel_rfl) (fun _ _ _ h => h) (by rfl) (by assumption) ?_ ?_; rotate_left; (intro W hW; (try dsimp only at hW); go_simp; try with_reducible rfl); (try simp only [Act.put, List.setIfInBounds_toArray, List.set_cons_zero, List.set_cons_succ]))
        | (refine takeU (i := 7) rfl (by kernel_rfl) (by kernel_rfl) (by kernel_rfl) (fun _ _ _ h => h) (by rfl) (by assumption) ?_; (try simp only [Act.put, List.setIfInBounds_toArray, List.set_cons_zero, List.set_cons_succ]))
      first
        | (refine takeW (i := 8) (v := ?_) rfl (by kernel_rfl) (by kernel_rfl) (by kernel_rfl) (fun _ _ _ h => h) (by rfl) (by assumption) ?_ ?_; rotate_left; (intro W hW; (try dsimp only at hW); go_simp; try with_reducible rfl); (try simp only [Act.put, List.setIfInBounds_toArray, List.set_cons_zero, List.set_cons_succ]))
        | (refine takeU (i := 8) rfl (by kernel_rfl) (by kernel_rfl) (by kernel_rfl) (fun _ _ _ h => h) (by rfl) (by assumption) ?_; (try simp only [Act.put, List.setIfInBounds_toArray, List.set_cons_zero, List.set_cons_succ]))
      (refine takeW (i := 9) rfl (by kernel_rfl) (by kernel_rfl) (by kernel_rfl) (fun _ _ _ h => h) (by rfl) (by assumption) (fun W hW => exec_loadW W31 rfl rfl (cs := encE x) rfl (HX.out W hW.1.out)) ?_; (try simp only [Act.put, List.setIfInBounds_toArray, List.set_cons_zero, List.set_cons_succ]))
      first
        | (refine takeW (i := 10) (v := ?_) rfl (by kernel_rfl) (by kernel_rfl) (by kernel_rfl) (fun _ _ _ h => h) (by rfl) (by assumption) ?_ ?_; rotate_left; (intro W hW; (try dsimp only at hW); go_simp; try with_reducible rfl); (try simp only [Act.put, List.setIfInBounds_toArray, List.set_cons_zero, List.set_cons_succ]))
        | (refine takeU (i := 10) rfl (by kernel_rfl) (by kernel_rfl) (by kernel_rfl) (fun _ _ _ h => h) (by rfl) (by assumption) ?_; (try simp only [Act.put, List.setIfInBounds_toArray, List.set_cons_zero, List.set_cons_succ]))
      first
        | (refine takeW (i := 11) (v := ?_) rfl (by kernel_rfl) (by kernel_rfl) (by kernel_rfl) (fun _ _ _ h => h) (by rfl) (by assumption) ?_ ?_; rotate_left; (intro W hW; (try dsimp only at hW); go_simp; try with_reducible rfl); (try simp only [Act.put, List.setIfInBounds_toArray, List.set_cons_zero, List.set_cons_succ]))
        | (refine takeU (i := 11) rfl (by kernel_rfl) (by kernel_rfl) (by kernel_rfl) (fun _ _ _ h => h) (by rfl) (by assumption) ?_; (try simp only [Act.put, List.setIfInBounds_toArray, List.set_cons_zero, List.set_cons_succ]))
      first
        | (refine takeW (i := 12) (v := ?_) rfl (by kernel_rfl) (by kernel_rfl) (by kernel_rfl) (fun _ _ _ h => h) (by rfl) (by assumption) ?_ ?_; rotate_left; (intro W hW; (try dsimp only at hW); go_simp; try with_reducible rfl); (try simp only [Act.put, List.setIfInBounds_toArray, List.set_cons_zero, List.set_cons_succ]))
        | (refine takeU (i := 12) rfl (by kernel_rfl) (by kernel_rfl) (by kernel_rfl) (fun _ _ _ h => h) (by rfl) (by assumption) ?_; (try simp only [Act.put, List.setIfInBounds_toArray, List.set_cons_zero, List.set_cons_succ]))
      (refine takeW (i := 13) rfl (by kernel_rfl) (by kernel_rfl) (by kernel_rfl) (fun _ _ _ h => h) (by rfl) (by assumption) (fun W hW => exec_load1 (v := (.slice (some ⟨g, 0, none⟩) n cap)) F22 rfl rfl (hW.1.out.1.cell 1)) ?_; (try simp only [Act.put, List.setIfInBounds_toArray, List.set_cons_zero, List.set_cons_succ]))
      first
        | (refine takeW (i := 14) (v := ?_) rfl (by kernel_rfl) (by kernel_rfl) (by kernel_rfl) (fun _ _ _ h => h) (by rfl) (by assumption) ?_ ?_; rotate_left; (intro W hW; (try dsimp only at hW); go_simp; try with_reducible rfl); (try simp only [Act.put, List.setIfInBounds_toArray, List.set_cons_zero, List.set_cons_succ]))
        | (refine takeU (i := 14) rfl (by kernel_rfl) (by kernel_rfl) (by kernel_rfl) (fun _ _ _ h => h) (by rfl) (by assumption) ?_; (try simp only [Act.put, List.setIfInBounds_toArray, List.set_cons_zero, List.set_cons_succ]))
      first
        | (refine takeW (i := 15) (v := ?_) rfl (by kernel_rfl) (by kernel_rfl) (by kernel_rfl) (fun _ _ _ h => h) (by rfl) (by assumption) ?_ ?_; rotate_left; (intro W hW; (try dsimp only at hW); go_simp; try with_reducible rfl); (try simp only [Act.put, List.setIfInBounds_toArray, List.set_cons_zero, List.set_cons_succ]))
        | (refine takeU (i := 15) rfl (by kernel_rfl) (by kernel_rfl) (by kernel_rfl) (fun _ _ _ h => h) (by rfl) (by assumption) ?_; (try simp only [Act.put, List.setIfInBounds_toArray, List.set_cons_zero, List.set_cons_succ]))
      (refine takeW (i := 16) rfl (by kernel_rfl) (by kernel_rfl) (by kernel_rfl) (fun _ _ _ h => h) (by rfl) (by assumption) (fun W hW => exec_loadW W31 rfl rfl (cs := encE y) rfl (HY.out W hW.1.out)) ?_; (try simp only [Act.put, List.setIfInBounds_toArray, List.set_cons_zero, List.set_cons_succ]))
      refine takeC (i := 17) rfl (by kernel_rfl) (by rfl) (fun K hK => ?_)
      go_simp
      refine (HLE.out _).mono ?_
      rintro e W2 ⟨rfl, hg⟩
      refine hK.out _ _ ⟨Lib.hid (hHeld.1.out.gw hg), Lib.hid (hHeld.2.out.gw hg)⟩ (fun hHeld => ?_)
      clear hK K
      try simp only [Act.put, List.setIfInBounds_toArray, List.set_cons_zero, List.set_cons_succ]
      (refine takeW (i := 18) (v := ?_) rfl (by kernel_rfl) (by kernel_rfl) (by kernel_rfl) (fun _ _ _ h => h) (by rfl) (by assumption) ?_ ?_; rotate_left; (intro W hW; (try dsimp only at hW); go_simp; try with_reducible rfl); (try simp only [Act.put, List.setIfInBounds_toArray, List.set_cons_zero, List.set_cons_succ]))
      refine wpAnyH_done (by kernel_rfl) ?_ _
      have HQ2 := hHeld.1
      have HK2 := hHeld.2
      clear hHeld
      cases b with
      | false =>
        have HE : Hid (riseL l i = l') := by show _ = _; rw [← HR.out, HRL.out]; simp
        go_wp2
        simp only [Exit.jump]
        go_end0
        exact ⟨rfl, by rw [HE.out]; exact HQ2.out, HK2.out⟩
      | true =>
        have hS2 : Hid (Blk W2.drew q 47 #[.bool true, (.slice (some ⟨g, 0, none⟩) n cap), .int .i64 now]) := HQ2.out.1
        have hQ3 : Qu W2.drew q (.slice (some ⟨g, 0, none⟩) n cap) l' now := HQ2.out.gw (Gw.refl _).drew
        have HK3 := Lib.hid (HK2.out.gw (Gw.refl _).drew)
        have HXW := Lib.hid (HX.out _ hQ3)
        have HYW := Lib.hid (HY.out _ hQ3)
        have HO : Hid (W2.drew.ownsRow (q + 1) 31 4 (.slice (some ⟨g, 0, none⟩) n cap) n (l'.flatMap encE)) := by have := hQ3.2; rw [HN.out] at this; exact this
        have hgq : q + 1 ≤ g := by
          obtain ⟨a, c, he, -, -, h3⟩ := owns_shape HO.out
          cases he
          obtain ⟨g', he, h4, -⟩ := h3 (by omega)
          cases he
          exact h4
        clear hQ3 HX HY
        go_upto_region 2 with fail
        refine wp_region_held_drew (S := fun X => Hid (Blk X q 47 #[.bool true, (.slice (some ⟨g, 0, none⟩) n cap), .int .i64 now])) (by kernel_rfl) hS2 (fun hHeld => ?_)
        (refine takeW (i := 0) (v := ?_) rfl (by kernel_rfl) (by kernel_rfl) (by kernel_rfl) (fun _ _ _ h => h) (by rfl) (by assumption) ?_ ?_; rotate_left; (intro W hW; (try dsimp only at hW); go_simp; try with_reducible rfl); (try simp only [Act.put, List.setIfInBounds_toArray, List.set_cons_zero, List.set_cons_succ]))
        (refine takeW (i := 1) (v := ?_) rfl (by kernel_rfl) (by kernel_rfl) (by kernel_rfl) (fun _ _ _ h => h) (by rfl) (by assumption) ?_ ?_; rotate_left; (intro W hW; (try dsimp only at hW); go_simp; try with_reducible rfl); (try simp only [Act.put, List.setIfInBounds_toArray, List.set_cons_zero, List.set_cons_succ]))
        (refine takeW (i := 2) (v := ?_) rfl (by kernel_rfl) (by kernel_rfl) (by kernel_rfl) (fun _ _ _ h => h) (by rfl) (by assumption) ?_ ?_; rotate_left; (intro W hW; (try dsimp only at hW); go_simp; try with_reducible rfl); (try simp only [Act.put, List.setIfInBounds_toArray, List.set_cons_zero, List.set_cons_succ]))
        (refine takeW (i := 3) rfl (by kernel_rfl) (by kernel_rfl) (by kernel_rfl) (fun _ _ _ h => h) (by rfl) (by assumption) (fun W hW => exec_load1 (v := (.slice (some ⟨g, 0, none⟩) n cap)) F22 rfl rfl (hW.out.cell 1)) ?_; (try simp only [Act.put, List.setIfInBounds_toArray, List.set_cons_zero, List.set_cons_succ]))
        (refine takeW (i := 4) (v := ?_) rfl (by kernel_rfl) (by kernel_rfl) (by kernel_rfl) (fun _ _ _ h => h) (by rfl) (by assumption) ?_ ?_; rotate_left; (intro W hW; (try dsimp only at hW); go_simp; try with_reducible rfl); (try simp only [Act.put, List.setIfInBounds_toArray, List.set_cons_zero, List.set_cons_succ]))
        (refine takeW (i := 5) (v := ?_) rfl (by kernel_rfl) (by kernel_rfl) (by kernel_rfl) (fun _ _ _ h => h) (by rfl) (by assumption) ?_ ?_; rotate_left; (intro W hW; (try dsimp only at hW); go_simp; try with_reducible rfl); (try simp only [Act.put, List.setIfInBounds_toArray, List.set_cons_zero, List.set_cons_succ]))
        (refine takeW (i := 6) (v := ?_) rfl (by kernel_rfl) (by kernel_rfl) (by kernel_rfl) (fun _ _ _ h => h) (by rfl) (by assumption) ?_ ?_; rotate_left; (intro W hW; (try dsimp only at hW); go_simp; try with_reducible rfl); (try simp only [Act.put, List.setIfInBounds_toArray, List.set_cons_zero, List.set_cons_succ]))
        (refine takeW (i := 7) (v := ?_) rfl (by kernel_rfl) (by kernel_rfl) (by kernel_rfl) (fun _ _ _ h => h) (by rfl) (by assumption) ?_ ?_; rotate_left; (intro W hW; (try dsimp only at hW); go_simp; try with_reducible rfl); (try simp only [Act.put, List.setIfInBounds_toArray, List.set_cons_zero, List.set_cons_succ]))
        (refine takeW (i := 8) rfl (by kernel_rfl) (by kernel_rfl) (by kernel_rfl) (fun _ _ _ h => h) (by rfl) (by assumption) (fun W hW => exec_load1 (v := (.slice (some ⟨g, 0, none⟩) n cap)) F22 rfl rfl (hW.out.cell 1)) ?_; (try simp only [Act.put, List.setIfInBounds_toArray, List.set_cons_zero, List.set_cons_succ]))
        (refine takeW (i := 9) (v := ?_) rfl (by kernel_rfl) (by kernel_rfl) (by kernel_rfl) (fun _ _ _ h => h) (by rfl) (by assumption) ?_ ?_; rotate_left; (intro W hW; (try dsimp only at hW); go_simp; try with_reducible rfl); (try simp only [Act.put, List.setIfInBounds_toArray, List.set_cons_zero, List.set_cons_succ]))
        (refine takeW (i := 10) (v := ?_) rfl (by kernel_rfl) (by kernel_rfl) (by kernel_rfl) (fun _ _ _ h => h) (by rfl) (by assumption) ?_ ?_; rotate_left; (intro W hW; (try dsimp only at hW); go_simp; try with_reducible rfl); (try simp only [Act.put, List.setIfInBounds_toArray, List.set_cons_zero, List.set_cons_succ]))
        (refine takeW (i := 11) (v := ?_) rfl (by kernel_rfl) (by kernel_rfl) (by kernel_rfl) (fun _ _ _ h => h) (by rfl) (by assumption) ?_ ?_; rotate_left; (intro W hW; (try dsimp only at hW); go_simp; try with_reducible rfl); (try simp only [Act.put, List.setIfInBounds_toArray, List.set_cons_zero, List.set_cons_succ]))
        (refine takeW (i := 12) (v := ?_) rfl (by kernel_rfl) (by kernel_rfl) (by kernel_rfl) (fun _ _ _ h => h) (by rfl) (by assumption) ?_ ?_; rotate_left; (intro W hW; (try dsimp only at hW); go_simp; try with_reducible rfl); (try simp only [Act.put, List.setIfInBounds_toArray, List.set_cons_zero, List.set_cons_succ]))
        (refine takeW (i := 13) rfl (by kernel_rfl) (by kernel_rfl) (by kernel_rfl) (fun _ _ _ h => h) (by rfl) (by assumption) (fun W hW => exec_load1 (v := (.slice (some ⟨g, 0, none⟩) n cap)) F22 rfl rfl (hW.out.cell 1)) ?_; (try simp only [Act.put, List.setIfInBounds_toArray, List.set_cons_zero, List.set_cons_succ]))
        (refine takeW (i := 14) (v := ?_) rfl (by kernel_rfl) (by kernel_rfl) (by kernel_rfl) (fun _ _ _ h => h) (by rfl) (by assumption) ?_ ?_; rotate_left; (intro W hW; (try dsimp only at hW); go_simp; try with_reducible rfl); (try simp only [Act.put, List.setIfInBounds_toArray, List.set_cons_zero, List.set_cons_succ]))
        (refine takeW (i := 15) (v := ?_) rfl (by kernel_rfl) (by kernel_rfl) (by kernel_rfl) (fun _ _ _ h => h) (by rfl) (by assumption) ?_ ?_; rotate_left; (intro W hW; (try dsimp only at hW); go_simp; try with_reducible rfl); (try simp only [Act.put, List.setIfInBounds_toArray, List.set_cons_zero, List.set_cons_succ]))
        (refine takeW (i := 17) (v := ?_) rfl (by kernel_rfl) (by kernel_rfl) (by kernel_rfl) (fun _ _ _ h => h) (by rfl) (by assumption) ?_ ?_; rotate_left; (intro W hW; (try dsimp only at hW); go_simp; try with_reducible rfl); (try simp only [Act.put, List.setIfInBounds_toArray, List.set_cons_zero, List.set_cons_succ]))
        (refine takeW (i := 18) (v := ?_) rfl (by kernel_rfl) (by kernel_rfl) (by kernel_rfl) (fun _ _ _ h => h) (by rfl) (by assumption) ?_ ?_; rotate_left; (intro W hW; (try dsimp only at hW); go_simp; try with_reducible rfl); (try simp only [Act.put, List.setIfInBounds_toArray, List.set_cons_zero, List.set_cons_succ]))
        (refine takeW (i := 19) (v := ?_) rfl (by kernel_rfl) (by kernel_rfl) (by kernel_rfl) (fun _ _ _ h => h) (by rfl) (by assumption) ?_ ?_; rotate_left; (intro W hW; (try dsimp only at hW); go_simp; try with_reducible rfl); (try simp only [Act.put, List.setIfInBounds_toArray, List.set_cons_zero, List.set_cons_succ]))
        (refine takeW (i := 20) rfl (by kernel_rfl) (by kernel_rfl) (by kernel_rfl) (fun _ _ _ h => h) (by rfl) (by assumption) (fun W hW => exec_load1 (v := (.slice (some ⟨g, 0, none⟩) n cap)) F22 rfl rfl (hW.out.cell 1)) ?_; (try simp only [Act.put, List.setIfInBounds_toArray, List.set_cons_zero, List.set_cons_succ]))
        (refine takeW (i := 21) (v := ?_) rfl (by kernel_rfl) (by kernel_rfl) (by kernel_rfl) (fun _ _ _ h => h) (by rfl) (by assumption) ?_ ?_; rotate_left; (intro W hW; (try dsimp only at hW); go_simp; try with_reducible rfl); (try simp only [Act.put, List.setIfInBounds_toArray, List.set_cons_zero, List.set_cons_succ]))
        (refine takeW (i := 22) (v := ?_) rfl (by kernel_rfl) (by kernel_rfl) (by kernel_rfl) (fun _ _ _ h => h) (by rfl) (by assumption) ?_ ?_; rotate_left; (intro W hW; (try dsimp only at hW); go_simp; try with_reducible rfl); (try simp only [Act.put, List.setIfInBounds_toArray, List.set_cons_zero, List.set_cons_succ]))
        refine takeV2 (i := 16) (j := 23) rfl rfl (by kernel_rfl) (by rfl) (by rfl) (exec_loadW W31 rfl rfl (cs := encE y) rfl HYW.out) (hHeld) (exec_loadW W31 rfl rfl (cs := encE x) rfl HXW.out) (hHeld) ?_ ?_
        · (try simp only [Act.put, List.setIfInBounds_toArray, List.set_cons_zero, List.set_cons_succ])
          have hHeld : Hid (Blk W2.drew q 47 #[.bool true, (.slice (some ⟨g, 0, none⟩) n cap), .int .i64 now]) := hHeld
          refine takeV (i := 23) rfl (by kernel_rfl) (by rfl) (exec_loadW W31 rfl rfl (cs := encE x) rfl HXW.out) (hHeld) ?_
          (try simp only [Act.put, List.setIfInBounds_toArray, List.set_cons_zero, List.set_cons_succ])
          have hHeld : Hid (Blk W2.drew q 47 #[.bool true, (.slice (some ⟨g, 0, none⟩) n cap), .int .i64 now]) := hHeld
          (refine takeW (i := 24) (v := ?_) rfl (by kernel_rfl) (by kernel_rfl) (by kernel_rfl) (fun _ _ _ h => h) (by rfl) (by assumption) ?_ ?_; rotate_left; (intro W hW; (try dsimp only at hW); go_simp; try with_reducible rfl); (try simp only [Act.put, List.setIfInBounds_toArray, List.set_cons_zero, List.set_cons_succ]))
          refine takeStoreOwn (i := 25) W31 encE_len encE_one rfl (by kernel_rfl) (by rfl) rfl (L := l') HN.out HO.out rfl rfl hj ?_
          intro W4 ho hgW4
          have hb := Lib.hid (hHeld.out.kept hgW4 (by simp; omega))
          refine ⟨hb, ?_⟩
          clear hHeld
          have hHeld := hb
          clear hb
          have HOW4 := Lib.hid ho
          clear ho
          try simp only [Act.put]
          (refine takeW (i := 26) (v := ?_) rfl (by kernel_rfl) (by kernel_rfl) (by kernel_rfl) (fun _ _ _ h => h) (by rfl) (by assumption) ?_ ?_; rotate_left; (intro W hW; (try dsimp only at hW); go_simp; try with_reducible rfl); (try simp only [Act.put, List.setIfInBounds_toArray, List.set_cons_zero, List.set_cons_succ]))
          refine takeStoreOwn (i := 27) W31 encE_len encE_one rfl (by kernel_rfl) (by rfl) rfl (L := l'.set j y) (by rw [List.length_set]; exact HN.out) HOW4.out rfl rfl hm2 ?_
          intro W5 ho hgW5
          have hb := Lib.hid (hHeld.out.kept hgW5 (by simp; omega))
          refine ⟨hb, ?_⟩
          clear hHeld
          have hHeld := hb
          clear hb
          have HOW5 := Lib.hid ho
          clear ho
          try simp only [Act.put]
          refine wpAnyH_done (by kernel_rfl) ?_ _
          go_wp2
          go_step3
          have HK5 := Lib.hid ((HK3.out.row hgW4 (.inl rfl)).row hgW5 (.inl rfl))
          have HQ5 : Hid (Qu W5 q (.slice (some ⟨g, 0, none⟩) n cap) (swapL l' j m) now) := by
            refine ⟨hHeld.out, ?_⟩
            have := HOW5.out
            rw [HSW.out]
            simpa [HN.out] using this
          have HR5 : Hid (riseL (swapL l' j m) m = riseL l i) := by show _ = _; rw [← HR.out, HRL.out]; simp
          have HL5 : Hid ((swapL l' j m).length = l.length) := (swapL_len _ _ _).trans HL.out
          have hm5 : m < (swapL l' j m).length := by rw [swapL_len, HN.out]; exact hm2
          refine (show (0 : Nat) = 0 ∧ _ from ⟨rfl, ?_⟩)
          refine ⟨⟨m, _, _, _, _, _, _, _, _, _, _, _, _, _, _, _, _, _, _, _, _, _, _, _, _, _, _, _, _, _, _, _, _, _, _, _, _, _, _, _, _, _, _, _, _, _, _, _, _, _, _, _, _, _, rfl, HQ5, HK5, HR5, hm5, HL5⟩, ?_⟩
          show (m : Int).toNat < (j : Int).toNat
          omega
        · (try simp only [Act.put, List.setIfInBounds_toArray, List.set_cons_zero, List.set_cons_succ])
          have hHeld : Hid (Blk W2.drew q 47 #[.bool true, (.slice (some ⟨g, 0, none⟩) n cap), .int .i64 now]) := hHeld
          refine takeV (i := 16) rfl (by kernel_rfl) (by rfl) (exec_loadW W31 rfl rfl (cs := encE y) rfl HYW.out) (hHeld) ?_
          (try simp only [Act.put, List.setIfInBounds_toArray, List.set_cons_zero, List.set_cons_succ])
          have hHeld : Hid (Blk W2.drew q 47 #[.bool true, (.slice (some ⟨g, 0, none⟩) n cap), .int .i64 now]) := hHeld
          (refine takeW (i := 24) (v := ?_) rfl (by kernel_rfl) (by kernel_rfl) (by kernel_rfl) (fun _ _ _ h => h) (by rfl) (by assumption) ?_ ?_; rotate_left; (intro W hW; (try dsimp only at hW); go_simp; try with_reducible rfl); (try simp only [Act.put, List.setIfInBounds_toArray, List.set_cons_zero, List.set_cons_succ]))
          refine takeStoreOwn (i := 25) W31 encE_len encE_one rfl (by kernel_rfl) (by rfl) rfl (L := l') HN.out HO.out rfl rfl hj ?_
          intro W4 ho hgW4
          have hb := Lib.hid (hHeld.out.kept hgW4 (by simp; omega))
          refine ⟨hb, ?_⟩
          clear hHeld
          have hHeld := hb
          clear hb
          have HOW4 := Lib.hid ho
          clear ho
          try simp only [Act.put]
          (refine takeW (i := 26) (v := ?_) rfl (by kernel_rfl) (by kernel_rfl) (by kernel_rfl) (fun _ _ _ h => h) (by rfl) (by assumption) ?_ ?_; rotate_left; (intro W hW; (try dsimp only at hW); go_simp; try with_reducible rfl); (try simp only [Act.put, List.setIfInBounds_toArray, List.set_cons_zero, List.set_cons_succ]))
          refine takeStoreOwn (i := 27) W31 encE_len encE_one rfl (by kernel_rfl) (by rfl) rfl (L := l'.set j y) (by rw [List.length_set]; exact HN.out) HOW4.out rfl rfl hm2 ?_
          intro W5 ho hgW5
          have hb := Lib.hid (hHeld.out.kept hgW5 (by simp; omega))
          refine ⟨hb, ?_⟩
          clear hHeld
          have hHeld := hb
          clear hb
          have HOW5 := Lib.hid ho
          clear ho
          try simp only [Act.put]
          refine wpAnyH_done (by kernel_rfl) ?_ _
          go_wp2
          go_step3
          have HK5 := Lib.hid ((HK3.out.row hgW4 (.inl rfl)).row hgW5 (.inl rfl))
          have HQ5 : Hid (Qu W5 q (.slice (some ⟨g, 0, none⟩) n cap) (swapL l' j m) now) := by
            refine ⟨hHeld.out, ?_⟩
            have := HOW5.out
            rw [HSW.out]
            simpa [HN.out] using this
          have HR5 : Hid (riseL (swapL l' j m) m = riseL l i) := by show _ = _; rw [← HR.out, HRL.out]; simp
          have HL5 : Hid ((swapL l' j m).length = l.length) := (swapL_len _ _ _).trans HL.out
          have hm5 : m < (swapL l' j m).length := by rw [swapL_len, HN.out]; exact hm2
          refine (show (0 : Nat) = 0 ∧ _ from ⟨rfl, ?_⟩)
          refine ⟨⟨m, _, _, _, _, _, _, _, _, _, _, _, _, _, _, _, _, _, _, _, _, _, _, _, _, _, _, _, _, _, _, _, _, _, _, _, _, _, _, _, _, _, _, _, _, _, _, _, _, _, _, _, _, _, rfl, HQ5, HK5, HR5, hm5, HL5⟩, ?_⟩
          show (m : Int).toNat < (j : Int).toNat
          omega
end Go.Proofs.Ytbmnecdkjkffdaa
