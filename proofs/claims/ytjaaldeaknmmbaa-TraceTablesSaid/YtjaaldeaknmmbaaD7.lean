/- Round: its iterator, where a round writes into a builder. -/
import Derived.Test.YtjaaldeaknmmbaaS7
import Derived.Test.YtjaaldeaknmmbaaKq
import Derived.Test.YtjaaldeaknmmbaaD6
import Derived.RangeFuncNested
namespace Go.Proofs.Ytjaaldeaknmmbaa
open Go.RowKit Go.Shelf
attribute [local go_sem] Oper.semAt_some

/-- A snap whose numbers are numbers. -/
abbrev SnG : Type := { x : Sn // GoodT x }
def ofG (l : List SnG) (r : Int) (k : Nat) : List SnG := (l.take k).filter (fun x => x.val.r == r)
theorem ofG_succ (l : List SnG) (r : Int) (k : Nat) (x : SnG) (hx : l[k]? = some x) : ofG l r (k + 1) = if (x.val.r == r) = true then ofG l r k ++ [x] else ofG l r k := filter_snoc (fun x : SnG => x.val.r == r) hx
theorem ofG_val (l : List SnG) (r : Int) (k : Nat) : (ofG l r k).map Subtype.val = ofR (l.map Subtype.val) r k := by
  unfold ofG ofR
  rw [← List.map_take, List.filter_map]
  rfl
def encG' (x : SnG) : Array Value := #[.agg (encS x.val).toArray]
theorem with_good : ∀ (l : List Sn), (∀ x ∈ l, GoodT x) → ∃ g : List SnG, g.map Subtype.val = l
  | [], _ => ⟨[], rfl⟩
  | x :: l, h => by
    obtain ⟨g, hg⟩ := with_good l (fun y hy => h y (by simp [hy]))
    exact ⟨⟨x, h x (by simp)⟩ :: g, by simp [hg]⟩
set_option maxRecDepth 100000 in
set_option maxHeartbeats 1600000 in
theorem round1q_in (n : Nat) (hn : 1 ≤ n) (y g1 g2 n₀ : Nat) (p : Nat → Prop) (v : Value) (l : List SnG) (r : Int) (J Jx : List SnG → World → Prop) (W : World) (hJ : AbidesFrom W.heap.size J)
    (hY : ∀ pre x W1, J pre W1 → pre.length < l.length → YieldAt Fence.wide (n - 1) Try.prog y (encG' x) W1 fun e W' =>
      (e = .returned (.bool true) ∧ J (pre ++ [x]) W' ∧ KQ n₀ p W1 W') ∨ (e = .returned (.bool false) ∧ Jx (pre ++ [x]) W'))
    (hn₀ : n₀ ≤ W.heap.size) (h1 : W.cell? ⟨g1, 0, none⟩ = some v) (h2 : W.cell? ⟨g2, 0, none⟩ = some (.int .i64 r))
    (b2 : p g2) (hL : ∀ W', KQ n₀ p W W' → Snaps W' v (l.map Subtype.val)) (h0 : J [] W) :
    CallsIn Fence.wide n Try.prog 31 #[.func (.yield y) #[] #[], .pointer (some ⟨g1, 0, none⟩), .pointer (some ⟨g2, 0, none⟩)] W fun e W' => (∃ v, e = .returned v) ∧
      ((∃ xs, xs = ofG l r l.length ∧ J xs W') ∨ (∃ pre, pre <+: ofG l r l.length ∧ Jx pre W')) := by
  obtain ⟨a, cap, rfl, q1, q2, q3⟩ := (hL W (KQ.refl _ _ _)).shape
  simp only [List.length_map] at *
  have HLL := Lib.hid hL
  clear hL
  have hg1 := World.block_lt_of_cell? _ _ h1
  have HB1 := Lib.hid (fun k x => ofG_succ l r k x)
  have HBL := Lib.hid (fun k (hk : k < l.length) => show (ofG l r k).length < l.length by
    have h1 := List.length_filter_le (fun x : SnG => x.val.r == r) (l.take k)
    have h2 : (l.take k).length ≤ k := List.length_take_le k l
    unfold ofG
    omega)
  have HPX : Hid (∀ k, k ≤ l.length → ofG l r k <+: ofG l r l.length) := fun k hk => filter_prefix (fun x : SnG => x.val.r == r) l hk
  have HB0 : Hid (ofG l r 0 = []) := rfl
  generalize hbt : ofG l r = bt' at *
  clear hbt
  generalize hnn : l.length = nn at *
  have HN := Lib.hid hnn
  clear hnn
  refine callsIn_of_wp Try.func31 rfl trivial ?_ rfl
  simp only [Try.ntmps31, List.size_toArray, List.length_cons, List.length_nil, Nat.reduceAdd, Nat.reduceSub, Array.replicate_succ, Array.replicate_zero, List.push_toArray, List.append_toArray, List.nil_append, List.cons_append]
  gi_wp2
  gi_loopw [8] (fun i wr => ∃ k : Nat, k ≤ nn ∧ i = .int .i64 k ∧ J (bt' k) wr ∧ KQ n₀ p W wr ∧ W.heap.size ≤ wr.heap.size)
    (fun i _ => nn - (intOf i).toNat)
  case atStart => exact ⟨0, Nat.zero_le _, rfl, by rw [HB0.out]; exact h0, KQ.refl _ _ _, Nat.le_refl _⟩
  case round =>
    obtain ⟨k, hk, rfl, hJs, hnx, hsz⟩ := hrel
    by_cases hlt : k < nn
    · obtain ⟨x, hs⟩ : ∃ x, l[k]? = some x := ⟨_, List.getElem?_eq_getElem (by rw [HN.out]; exact hlt)⟩
      obtain ⟨b, off, rfl, hbl, hc⟩ := (HLL.out wr hnx).row (by intro e; rw [List.map_eq_nil_iff] at e; subst e; simp at hs)
      have hs' : (l.map Subtype.val)[k]? = some x.val := by simp [hs]
      have c0 := sn_r hc hs'
      have HC := Lib.hid (sn_at hc hs')
      have e2 := hnx.cell b2 h2
      have l2 := World.block_lt_of_cell? _ _ e2
      have HQ := Lib.hid (HB1.out k x hs)
      have hlen := HBL.out k hlt
      have HP := Lib.hid (HPX.out (k + 1) hlt)
      clear hc hs hs'
      by_cases hp : x.val.r = r
      · have HQ2 : Hid (bt' (k + 1) = bt' k ++ [x]) := by show _ = _; rw [HQ.out]; simp [hp]
        have hp1 : (x.val.r == r) = true := by simpa using hp
        clear HQ hp
        gi_wp2_with (first
          | (refine wpListIn_loadW W41 rfl rfl rfl (encS x.val) rfl HC.out ?_)
          | (refine wpListIn_boxW W41 rfl rfl rfl (encS x.val) rfl rfl (encS_one x.val) rfl ?_; intro W1 HX hal hz1; have k0 : W1.cell? ⟨wr.heap.size, 0, none⟩ = some (.int .i64 x.val.r) := HX.list0 rfl; have k2 := keepCell hal e2; have HK := Lib.hid HX.list; have zz : wr.heap.size < W1.heap.size := (by omega); obtain ⟨fn, tmps, assign, body, hy, hR⟩ := hY _ x W1 (hJ _ _ _ none hJs (grown_of_below hal) (by simp)) hlen; unfold encG' at hy)
          | (refine wpListIn_loadW W41 rfl rfl rfl (encS x.val) rfl HK.out ?_))
        refine hR.mono ?_
        rintro e W3 (⟨rfl, hJ3, hk3⟩ | ⟨rfl, hJx3⟩)
        · gi_wp2
          go_roundw
          case rel => exact ⟨k + 1, by omega, by go_num, by rw [HQ2.out]; exact hJ3, (hnx.trans (KQ.of_below hal (Nat.le_trans hn₀ hsz))).trans hk3, Nat.le_trans hsz (Nat.le_trans hal.size hk3.1.size)⟩
          case measure => simp [intOf]; omega
        · gi_wp2
          refine bodyPost_ret (results_none rfl _ _ _) rfl ?_
          refine ⟨⟨_, rfl⟩, .inr ⟨_, ?_, hJx3⟩⟩
          rw [← HQ2.out]
          exact HP.out
      · have HQ2 : Hid (bt' (k + 1) = bt' k) := by show _ = _; rw [HQ.out]; simp [hp]
        have hp1 : (x.val.r == r) = false := by simpa using hp
        clear HQ hp
        gi_wp2_with (first
          | (refine wpListIn_loadW W41 rfl rfl rfl (encS x.val) rfl HC.out ?_)
          | (refine wpListIn_boxW W41 rfl rfl rfl (encS x.val) rfl rfl (encS_one x.val) rfl ?_; intro W1 HX hal hz1; have k0 : W1.cell? ⟨wr.heap.size, 0, none⟩ = some (.int .i64 x.val.r) := HX.list0 rfl; have k2 := keepCell hal e2; have zz : wr.heap.size < W1.heap.size := (by omega)))
        refine ⟨fun _ h => (by cases h), ?_⟩
        gi_wp2
        go_roundw
        case rel => exact ⟨k + 1, by omega, by go_num, by rw [HQ2.out]; exact hJ _ _ _ none hJs (grown_of_below hal) (by simp), hnx.trans (KQ.of_below hal (Nat.le_trans hn₀ hsz)), Nat.le_trans hsz hal.size⟩
        case measure => simp [intOf]; omega
    · obtain rfl : nn = k := by omega
      gi_wp2
      go_end0
      exact ⟨⟨_, rfl⟩, .inl ⟨_, rfl, hJs⟩⟩
theorem round_stopsq (n : Nat) (hn : 1 ≤ n) (g1 g2 n₀ : Nat) (p : Nat → Prop) (v : Value) (l : List SnG) (r : Int) (w : World)
    (hn₀ : n₀ ≤ w.heap.size) (h1 : w.cell? ⟨g1, 0, none⟩ = some v) (h2 : w.cell? ⟨g2, 0, none⟩ = some (.int .i64 r)) (b2 : p g2) (hL : ∀ W', KQ n₀ p w W' → Snaps W' v (l.map Subtype.val)) :
    SeqStopsK Fence.wide n Try.prog 31 #[.pointer (some ⟨g1, 0, none⟩), .pointer (some ⟨g2, 0, none⟩)] encG' (KQ n₀ p) (fun xs => xs = ofG l r l.length) (fun pre => pre <+: ofG l r l.length) l.length w :=
  fun y J Jx W hW hJ _ hY h0 => round1q_in n hn y g1 g2 n₀ p v l r J Jx W hJ hY (Nat.le_trans hn₀ hW.size) (keepCell hW h1) (keepCell hW h2) b2 (fun W' hW' => hL W' ((KQ.of_below hW hn₀).trans hW')) h0
/-- The marks that loops over iterators leave behind: each a block that is open still. -/
def Marks (n₀ : Nat) (W : World) (ds : List Deferred) : Prop := ∃ Ds : List Nat, Ds.Nodup ∧ ds = Ds.map (fun D => { target := .collected D, args := #[] }) ∧ ∀ D ∈ Ds, n₀ ≤ D ∧ W.heap[D]? = some (Obj.deferred (some []))
theorem Marks.nil (n₀ : Nat) (W : World) : Marks n₀ W [] := ⟨[], List.nodup_nil, rfl, by simp⟩
theorem Marks.keep {n₀ : Nat} {W X : World} {ds : List Deferred} (h : Marks n₀ W ds) (hk : ∀ D : Nat, W.heap[D]? = some (Obj.deferred (some [])) → X.heap[D]? = some (Obj.deferred (some []))) : Marks n₀ X ds := by
  obtain ⟨Ds, h1, h2, h3⟩ := h
  exact ⟨Ds, h1, h2, fun D hD => ⟨(h3 D hD).1, hk D (h3 D hD).2⟩⟩
theorem Marks.add {n₀ D : Nat} {W X : World} {ds : List Deferred} (h : Marks n₀ W ds) (hk : ∀ D : Nat, W.heap[D]? = some (Obj.deferred (some [])) → X.heap[D]? = some (Obj.deferred (some []))) (hD : W.heap.size ≤ D) (hn : n₀ ≤ D) (hX : X.heap[D]? = some (Obj.deferred (some []))) :
    Marks n₀ X ({ target := .collected D, args := #[] } :: ds) := by
  obtain ⟨Ds, h1, h2, h3⟩ := h
  refine ⟨D :: Ds, List.nodup_cons.2 ⟨fun hm => ?_, h1⟩, by rw [h2]; rfl, fun E hE => ?_⟩
  · have := (Array.getElem?_eq_some_iff.1 (h3 D hm).2).1
    omega
  · rcases List.mem_cons.1 hE with e | e
    · rw [e]; exact ⟨hn, hX⟩
    · exact ⟨(h3 E e).1, hk E (h3 E e).2⟩
theorem leave_marks {fn : Func} {tmps : Array Value} {R : Ending → World → Prop} {v : Value} {n₀ : Nat} : ∀ (Ds : List Nat) (W : World), Ds.Nodup → (∀ D ∈ Ds, n₀ ≤ D ∧ W.heap[D]? = some (Obj.deferred (some []))) →
    (∀ X, Below n₀ W X → (results fn tmps).run Try.prog X = .ok v X ∧ R (.returned v) X) → LeavesInM Fence.wide 3 Try.prog fn tmps R (Ds.map (fun D => { target := .collected D, args := #[] })) .returning W
  | [], W, _, _, h => by
    obtain ⟨h1, h2⟩ := h W (Below.refl _ _)
    exact ⟨v, h1, h2⟩
  | D :: Ds, W, hd, hm, h => by
    obtain ⟨h1, h2⟩ := hm D (by simp)
    refine ⟨by simp, .inl ⟨D, _, rfl, run_takeDeferred h2, ?_⟩⟩
    rw [List.nodup_cons] at hd
    refine leave_marks Ds _ hd.2 (fun E hE => ⟨(hm E (by simp [hE])).1, ?_⟩) (fun X hX => h X ?_)
    · rw [World.putObj_heap_other (fun e : E = D => hd.1 (e ▸ hE))]
      exact (hm E (by simp [hE])).2
    · exact ((Below.refl n₀ W).grown (grownBy_putObj' W D _) (by have := (Array.getElem?_eq_some_iff.1 h2).1; omega) (fun k e => by cases e; exact h1)).trans hX
end Go.Proofs.Ytjaaldeaknmmbaa
