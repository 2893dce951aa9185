/- A text's cut and a line's words: the library's answers in plain words. The reader's words. The reader's number. -/
import Derived.Test.YtjaaldeaknmmbaaDoorShelf
import Derived.Test.YtjaaldeaknmmbaaDoorPt
import Derived.Lib.SplitLaws
import Derived.IntWalk
import Derived.WalkSpells
import Derived.WalkLawsBesides
import Derived.Deep.DeepMust
import Derived.Deep.QuietTactic
import Derived.BigQuiet
import Derived.Lib.SliceRun
import Derived.Test.YtjaaldeaknmmbaaDoorD1
namespace Go.Proofs.YtjaaldeaknmmbaaDoor
open Go.RowKit Go.Shelf

def strV (w : List UInt8) : Value := .string ⟨w.toArray⟩
def encT (w : List UInt8) : List Value := [strV w]
theorem encT_len (w : List UInt8) : (encT w).length = 1 := rfl
theorem encT_one (w : List UInt8) : ∀ u ∈ encT w, u.oneCell' = true := by simp [encT, strV, Value.oneCell']
theorem encT_flat (l : List (List UInt8)) : l.flatMap encT = l.map strV := by
  induction l with
  | nil => rfl
  | cons x l ih => simp [List.flatMap_cons, encT, ih]
/-- Words that are read. -/
abbrev Wds (W : World) (v : Value) (ws : List (List UInt8)) : Prop := Rd encT 1 W v ws
theorem index_cut (c : UInt8) : ∀ s : List UInt8, Lib.index s [c] = match cutB c s with | some p => (p.1.length : Int) | none => -1
  | [] => by simp [Lib.index, cutB]
  | a :: s => by
    have ih := index_cut c s
    unfold Lib.index cutB
    by_cases h : a = c
    · subst h
      simp [List.isPrefixOf]
    · have hp : ([c] : List UInt8).isPrefixOf (a :: s) = false := by simp [List.isPrefixOf, Ne.symm h]
      rw [hp, if_neg h]
      simp only [Bool.false_eq_true, if_false]
      rw [ih]
      cases cutB c s with
      | none => simp
      | some p =>
        simp only [Option.map_some, List.length_cons]
        rw [if_neg (by simp; try omega)]
        simp
theorem cut_eq (c : UInt8) (s : List UInt8) : Lib.cut s [c] = match cutB c s with | some p => (p.1, p.2, true) | none => (s, [], false) := by
  unfold Lib.cut
  rw [index_cut]
  cases h : cutB c s with
  | none => simp
  | some p =>
    obtain ⟨x, y⟩ := p
    obtain ⟨e, -⟩ := cutB_some h
    simp only
    rw [if_pos (by omega), e]
    simp
theorem splitK_words (c : UInt8) : ∀ (N : Nat) (s : List UInt8), s.length ≤ N → Lib.splitK [c] 0 (Lib.count s [c]) s = splitB c s := by
  intro N
  induction N with
  | zero =>
    intro s hs
    obtain rfl : s = [] := List.eq_nil_of_length_eq_zero (by omega)
    rw [Lib.count_miss (by simp [Lib.index])]; rfl
  | succ N ih =>
    intro s hs
    have hi := index_cut c s
    cases h : cutB c s with
    | none =>
      rw [h] at hi
      rw [Lib.count_miss hi, splitB_word (cutB_none.1 h)]; rfl
    | some p =>
      obtain ⟨x, y⟩ := p
      rw [h] at hi
      simp only at hi
      obtain ⟨e, hn⟩ := cutB_some h
      have hd : s.drop (x.length + 1) = y := by rw [e]; simp
      have ht : s.take (x.length + 0) = x := by rw [e]; simp
      have hc : Lib.count s [c] = Lib.count y [c] + 1 := by
        have := Lib.count_hit (s := s) (sub := [c]) (by simp) hi
        rw [this]
        simp only [List.length_singleton]
        rw [hd]; omega
      rw [hc, Lib.splitK, if_neg (by rw [hi]; simp), hi]
      simp only [Int.toNat_natCast, List.length_singleton]
      rw [hd, ht, ih y (by have := congrArg List.length e; simp at this; omega), e, splitB_app _ hn]
theorem str_back (b : ByteArray) : Value.string b = strV b.data.toList := by
  obtain ⟨⟨l⟩⟩ := b
  rfl
theorem below_drewN {B : Nat} {a w : World} (h : Below B a w) (q : Nat) : Below B a (w.drewN q) := ⟨h.os, h.tape, h.output, h.size, h.block⟩
/-- Lines. -/
def cutV (s : List UInt8) : Value := match cutB 10 s with
  | some p => .tuple #[strV p.1, strV p.2, .bool true]
  | none => .tuple #[strV s, strV [], .bool false]
def MaxLen (W : World) : Prop := ∃ m : Int, W.cell? ⟨0, 0, none⟩ = some (.int .i64 m)
theorem MaxLen.below {W X : World} (h : MaxLen W) (hb : Below W.heap.size W X) : MaxLen X := by
  obtain ⟨m, hm⟩ := h
  exact ⟨m, by rw [hb.cell (World.block_lt_of_cell? _ _ hm)]; exact hm⟩
theorem MaxLen.grown {W X : World} {b : Nat} (h : MaxLen W) (hg : W.grownBy X (some b)) (hb : b ≠ 0) : MaxLen X := by
  obtain ⟨m, hm⟩ := h
  exact ⟨m, hg.cell hm (by intro e; cases e; exact hb rfl)⟩
theorem cut_any (s : List UInt8) (w : World) (hm : MaxLen w) (hs : s.length ≤ 1000000000) : Calls Tryd.prog 43 #[strV s, .string ⟨#[10]⟩] w fun e w' => e = .returned (cutV s) ∧ Below w.heap.size w w' := by
  obtain ⟨m, hm⟩ := hm
  refine (Tryd.strings_Cut ⟨s.toArray⟩ ⟨#[10]⟩ m w (by show s.toArray.size < _; simp; omega) hm).mono ?_
  rintro e w' ⟨rfl, n, rfl⟩
  refine ⟨?_, below_drewN (Below.refl _ _) n⟩
  simp only [cut_eq, cutV]
  cases cutB 10 s <;> rfl
theorem split_any (s : List UInt8) (w : World) (hm : MaxLen w) (hs : s.length ≤ 1000000000) : Calls Tryd.prog 44 #[strV s, .string ⟨#[32]⟩] w fun e w' =>
    e = .returned (.slice (some ⟨w.heap.size, 0, none⟩) (splitB 32 s).length (splitB 32 s).length) ∧ w' = w.alloc (.cells ((splitB 32 s).map strV).toArray 9) := by
  obtain ⟨m, hm⟩ := hm
  refine (Tryd.strings_Split ⟨s.toArray⟩ ⟨#[32]⟩ m w (by show s.toArray.size < _; simp; omega) hm (by decide)).mono ?_
  have hw : (Lib.splitB ⟨#[32]⟩ 0 (Lib.countB ⟨s.toArray⟩ ⟨#[32]⟩) ⟨s.toArray⟩).map (·.data.toList) = splitB 32 s := by
    rw [Lib.splitB_data]
    exact splitK_words 32 _ s (Nat.le_refl _)
  have hv : (Lib.splitB ⟨#[32]⟩ 0 (Lib.countB ⟨s.toArray⟩ ⟨#[32]⟩) ⟨s.toArray⟩).map Value.string = (splitB 32 s).map strV := by
    rw [← hw, List.map_map]
    exact List.map_congr_left fun b _ => str_back b
  have hl : Lib.countB ⟨s.toArray⟩ ⟨#[32]⟩ + 1 = (splitB 32 s).length := by
    rw [← hw, List.length_map, Lib.splitB_all _ (by decide) 0 _ _ rfl]
  rintro e w' ⟨rfl, rfl⟩
  rw [hl, hv]
  exact ⟨rfl, rfl⟩
end Go.Proofs.YtjaaldeaknmmbaaDoor
namespace Go.Proofs.YtjaaldeaknmmbaaDoor
open Go.RowKit Go.Shelf

structure RdS where
  rest : List UInt8
  n : Nat
  bad : Bool
def rdC (s : RdS) : List Value := [strV s.rest, .int .i64 (s.n : Int), .bool s.bad]
def wordsS (first : List UInt8) (k : Nat) (s : RdS) : RdS × List (List UInt8) :=
  if s.bad = true then (s, List.replicate k []) else match nextW s.rest with
    | some p => if p.1.length = k + 1 ∧ p.1.head? = some first then (⟨p.2, s.n + 1, false⟩, p.1.tail) else (⟨s.rest, s.n + 1, true⟩, List.replicate k [])
    | none => (⟨s.rest, s.n + 1, true⟩, List.replicate k [])
def WordsPost (br : Nat) (s : RdS) (first : List UInt8) (k : Nat) (w : World) (e : Ending) (w' : World) : Prop :=
  (∃ v, e = .returned v ∧ Wds w' v (wordsS first k s).2) ∧ Blk w' br 52 (rdC (wordsS first k s).1).toArray ∧ w.grownBy w' (some br)
theorem madeOne (z : Value) (n : Nat) : (madeCells #[z] n).toList = List.replicate n z := by
  apply List.ext_getElem?
  intro j
  by_cases h : j < n
  · simp [madeCells, h, Nat.mod_one]
  · simp [madeCells, h]
theorem exec_neS {w : World} {o : Oper} {ac : Act} {X Y : Operand} {ty : TypeId} {x y : List UInt8} (ho : o.op = .binOp .neq 9 X Y ty) (hx : ac.eval X = strV x) (hy : ac.eval Y = strV y) : (execOp ac.eval o).run Tryd.prog w = .ok (.value (.bool (!decide (x = y)))) w := by
  generalize ac.eval = ev at *
  unfold execOp
  simp only [ho, hx, hy, strV]
  by_cases h : x = y
  · subst h
    go_simp
    try simp
  · have h2 : ¬ (⟨x.toArray⟩ : ByteArray) = ⟨y.toArray⟩ := fun e => h (by have := congrArg (fun b : ByteArray => b.data.toList) e; simpa using this)
    go_simp
    try simp [h, h2]
theorem wds_made {w w0 : World} {k : Nat} (h : w.ownsRow w0.heap.size 9 1 (.slice (some ⟨w0.heap.size, 0, none⟩) k k) k (madeCells (strV []).cells (k * 1)).toList) (hk : k ≤ 7) : Wds w (.slice (some ⟨w0.heap.size, 0, none⟩) k k) (List.replicate k []) := by
  have e : (madeCells (strV []).cells (k * 1)).toList = (List.replicate k []).flatMap encT := by
    rw [encT_flat, List.map_replicate, Nat.mul_one]
    exact madeOne _ k
  rw [e] at h
  have := Rd.of_owns (enc := encT) (size := 1) (l := List.replicate k []) encT_len (by rw [List.length_replicate]; exact h) (by simp; omega)
  exact this
theorem wds_new {w : World} {ws : List (List UInt8)} (hl : ws.length ≤ 1000000001) : Wds (w.alloc (.cells (ws.map strV).toArray 9)) (.slice (some ⟨w.heap.size, 0, none⟩) ws.length ws.length) ws := by
  have h : (w.alloc (.cells (ws.map strV).toArray 9)).ownsRow w.heap.size 9 1 (.slice (some ⟨w.heap.size, 0, none⟩) ws.length ws.length) ws.length (ws.flatMap encT) := by
    refine ⟨by rw [encT_flat]; simp, .inr ⟨w.heap.size, ws.length, _, rfl, Nat.le_refl _, (Blk.new' rfl : Blk _ w.heap.size 9 (ws.map strV).toArray), Nat.le_refl _, by unfold maxLen; omega, by simp, by rw [encT_flat, List.toList_toArray, Nat.mul_one]; exact List.take_of_length_le (by simp)⟩⟩
  exact Rd.of_owns encT_len h (by omega)
theorem wds_grown {X Y : World} {b : Nat} {v : Value} {base n : Nat} {ws : List (List UInt8)} (h : X.ownsRow base 9 1 v n (ws.map strV)) (hg : X.grownBy Y (some b)) (hne : v.ownBlock ≠ some b) : Y.ownsRow base 9 1 v n (ws.map strV) := h.kept hg (.inr hne)
theorem rdC_set1 (r : List UInt8) (n : Nat) (b : Bool) (m : Int) : (rdC ⟨r, n, b⟩).toArray.setIfInBounds 1 (.int .i64 m) = ([strV r, .int .i64 m, .bool b] : List Value).toArray := by simp [rdC]
theorem splitB_len (c : UInt8) : ∀ (l : List UInt8) {n : Nat}, l.length ≤ n → (splitB c l).length ≤ n + 1
  | [], n, _ => by simp [splitB]
  | a :: l, 0, h => by simp at h
  | a :: l, n + 1, h => by
    have ih := splitB_len c l (n := n) (by simpa using h)
    unfold splitB
    split
    · simpa using ih
    · split
      · simp
      · next x r hx => rw [hx] at ih; simp at ih ⊢; omega
theorem Rd.grownFar {α : Type} {enc : α → List Value} {size : Nat} {X Y : World} {v : Value} {l : List α} {b : Nat} (h : Rd enc size X v l) (hg : X.grownBy Y (some b)) (hne : ∀ g o n c, v = .slice (some ⟨g, o, none⟩) n c → g ≠ b) : Rd enc size Y v l := by
  obtain ⟨a, cap, rfl, h1, h2, h3, h5, h4⟩ := h
  refine ⟨a, cap, rfl, h1, h2, h3, h5, ?_⟩
  rcases h4 with h4 | ⟨g, off, rfl, hlt, hc⟩
  · exact .inl h4
  · have hn : g ≠ b := hne g off _ _ rfl
    refine .inr ⟨g, off, rfl, Nat.lt_of_lt_of_le hlt hg.size, fun j x hx i u hu => ?_⟩
    exact hg.cell (hc j x hx i u hu) (fun e => by cases e; exact hn rfl)
theorem wds_far {X : World} {b b3 : Nat} {n c k : Nat} {ws : List (List UInt8)} (h : Wds X (sliced (some ⟨b3, 0, none⟩) 1 n c 1) ws) (hne : b3 ≠ b) (v : Value) : Wds (X.setCell ⟨b, k, none⟩ v) (sliced (some ⟨b3, 0, none⟩) 1 n c 1) ws :=
  Rd.grownFar h (grownBy_setCell X ⟨b, k, none⟩ v) (fun g o n' c' e => by
    unfold sliced at e
    split at e
    · cases e; exact hne
    · simp only [Value.slice.injEq, Addr.add, Option.map_some, Option.some.injEq] at e
      obtain ⟨⟨rfl, _⟩, _⟩ := e
      exact hne)
set_option maxRecDepth 100000 in
set_option maxHeartbeats 1600000 in
theorem words_any (br : Nat) (rest first : List UInt8) (n k : Nat) (bad : Bool) (W : World) (hb : Blk W br 52 (rdC ⟨rest, n, bad⟩).toArray) (hm : MaxLen W) (h0 : br ≠ 0) (hr : rest.length ≤ 1000000000) (hn : n ≤ 1000000000) (hk : k ≤ 7) :
    Calls Tryd.prog 26 #[.pointer (some ⟨br, 0, none⟩), strV first, .int .i64 (k : Int)] W (WordsPost br ⟨rest, n, bad⟩ first k W) := by
  obtain ⟨i0, hi0, hz0, hz1, hz2⟩ := info_parts (show (Tryd.prog.info? 9).map (fun i => (i.zero, i.size, i.bytes)) = some (some (strV []), 1, 16) by kernel_rfl)
  have HB := Lib.hid hb
  have HM := Lib.hid hm
  have c0 : W.cell? ⟨br, 0, none⟩ = some (strV rest) := hb.list0 rfl
  have c1 : W.cell? ⟨br, 1, none⟩ = some (.int .i64 (n : Int)) := hb.list0 rfl
  have c2 : W.cell? ⟨br, 2, none⟩ = some (.bool bad) := hb.list0 rfl
  have hbl := hb.lt
  clear hb hm
  cases bad with
  | true =>
    have HPO : Hid (∀ w', w'.ownsRow W.heap.size 9 1 (.slice (some ⟨W.heap.size, 0, none⟩) k k) k (madeCells (strV []).cells (k * 1)).toList → W.grownBy w' none → WordsPost br ⟨rest, n, true⟩ first k W (.returned (.slice (some ⟨W.heap.size, 0, none⟩) k k)) w') := fun w' ho hg =>
      ⟨⟨_, rfl, wds_made ho hk⟩, HB.out.kept hg (by simp), hg.but _⟩
    generalize WordsPost br ⟨rest, n, true⟩ first k W = POST at *
    go_enter Tryd.func26, Tryd.ntmps26
    go_wp2_with ((with_reducible show wpList _ _ _ (Oper.mk (some 16) _ _ _ _ _ :: _) _ _); refine wpList_make_full _ rfl _ _ 80 rfl W.heap.size 9 i0 (strV []) 1 Tryd.underlying80 hi0 hz0 hz1 _ _ _ _ k rfl rfl rfl rfl (by rw [hz2]; omega) (by unfold maxLen; omega) (Nat.le_refl _) ?_; intro w2 hown2 hgrow2; have HO2 := Lib.hid hown2; have HG2 := Lib.hid hgrow2; clear hown2 hgrow2)
    exact HPO.out _ HO2.out HG2.out
  | false =>
    have HPOF : Hid (∀ X Y : World, Blk X br 52 (rdC ⟨rest, n + 1, true⟩).toArray → W.grownBy X (some br) → Y.ownsRow X.heap.size 9 1 (.slice (some ⟨X.heap.size, 0, none⟩) k k) k (madeCells (strV []).cells (k * 1)).toList → X.grownBy Y none → wordsS first k ⟨rest, n, false⟩ = (⟨rest, n + 1, true⟩, List.replicate k []) →
        WordsPost br ⟨rest, n, false⟩ first k W (.returned (.slice (some ⟨X.heap.size, 0, none⟩) k k)) Y) := fun X Y h1 h2 h3 h4 e => by
      unfold WordsPost
      rw [e]
      exact ⟨⟨_, rfl, wds_made h3 hk⟩, h1.kept h4 (by simp), h2.trans (h4.but _)⟩
    have HPOS : Hid (∀ (X : World) (v : Value) (ws : List (List UInt8)) (r : List UInt8), Blk X br 52 (rdC ⟨r, n + 1, false⟩).toArray → W.grownBy X (some br) → Wds X v ws → wordsS first k ⟨rest, n, false⟩ = (⟨r, n + 1, false⟩, ws) → WordsPost br ⟨rest, n, false⟩ first k W (.returned v) X) := fun X v ws r h1 h2 h3 e => by
      unfold WordsPost
      rw [e]
      exact ⟨⟨_, rfl, h3⟩, h1, h2⟩
    have HWS : Hid (wordsS first k ⟨rest, n, false⟩ = match nextW rest with
      | some p => if p.1.length = k + 1 ∧ p.1.head? = some first then (⟨p.2, n + 1, false⟩, p.1.tail) else (⟨rest, n + 1, true⟩, List.replicate k [])
      | none => (⟨rest, n + 1, true⟩, List.replicate k [])) := by
      show _ = _
      unfold wordsS
      rw [if_neg (by simp)]
    have HNX : Hid (nextW rest = (cutB 10 rest).map fun p => (splitB 32 p.1, p.2)) := rfl
    generalize WordsPost br ⟨rest, n, false⟩ first k W = POST at *
    have fz1 : W.frozen? ⟨br, 1, none⟩ = false := HB.out.frozen 1
    have hw1 : IntKind.i64.wrap ((n : Int) + 1) = (n : Int) + 1 := IntWalk.i64_in _ (by omega)
    have hwk : IntKind.i64.wrap ((k : Int) + 1) = (k : Int) + 1 := IntWalk.i64_in _ (by omega)
    go_enter Tryd.func26, Tryd.ntmps26
    go_upto_region 4 with fail
    have HB1 : Hid (Blk (W.setCell ⟨br, 1, none⟩ (.int .i64 ((n : Int) + 1))) br 52 (rdC ⟨rest, n + 1, false⟩).toArray) := by
      have := HB.out.set 1 (.int .i64 ((n : Int) + 1))
      show Blk _ _ _ _
      simpa [rdC] using this
    have HG1 : Hid (W.grownBy (W.setCell ⟨br, 1, none⟩ (.int .i64 ((n : Int) + 1))) (some br)) := Lib.hid (grownBy_setCell _ _ _)
    have HM1 := Lib.hid (HM.out.grown HG1.out h0)
    clear HB HM c0 c1 c2 fz1 hw1
    generalize W.setCell ⟨br, 1, none⟩ (.int .i64 ((n : Int) + 1)) = W1 at *
    have c0 : W1.cell? ⟨br, 0, none⟩ = some (strV rest) := HB1.out.list0 rfl
    go_wp2_with fail
    refine (cut_any rest W1 HM1.out hr).mono ?_
    rintro e W2 ⟨rfl, hb2⟩
    have HB2 := Lib.hid (HB1.out.keep hb2)
    have HG2 := Lib.hid (HG1.out.trans (⟨hb2.os, hb2.tape, hb2.output, hb2.size, fun j hj _ => hb2.block j hj⟩ : W1.grownBy W2 (some br)))
    have HM2 := Lib.hid (HM1.out.below hb2)
    clear HB1 HG1 HM1 hb2 c0
    cases hcut : cutB 10 rest with
    | none =>
      have HF : Hid (wordsS first k ⟨rest, n, false⟩ = (⟨rest, n + 1, true⟩, List.replicate k [])) := by show _ = _; rw [HWS.out, HNX.out, hcut]; rfl
      rw [show cutV rest = .tuple #[strV rest, strV [], .bool false] by unfold cutV; rw [hcut]]
      clear hcut HWS HNX HPOS
      go_wp2_with fail
      refine (split_any rest W2 HM2.out hr).mono ?_
      rintro e W3 ⟨rfl, hw3⟩
      have hb3 : Below W2.heap.size W2 W3 := by rw [hw3]; exact (Below.refl _ _).alloc (Nat.le_refl _) _
      have HB3 := Lib.hid (HB2.out.keep hb3)
      have HG3 := Lib.hid (HG2.out.trans (⟨hb3.os, hb3.tape, hb3.output, hb3.size, fun j hj _ => hb3.block j hj⟩ : W2.grownBy W3 (some br)))
      clear hw3 hb3 HB2 HG2 HM2
      have d2 : W3.cell? ⟨br, 2, none⟩ = some (.bool false) := HB3.out.list0 rfl
      have fz2 : W3.frozen? ⟨br, 2, none⟩ = false := HB3.out.frozen 2
      go_upto_region 7 with fail
      go_upto_region 8 with fail
      have HB4 : Hid (Blk (W3.setCell ⟨br, 2, none⟩ (.bool true)) br 52 (rdC ⟨rest, n + 1, true⟩).toArray) := by
        have := HB3.out.set 2 (.bool true)
        show Blk _ _ _ _
        simpa [rdC] using this
      have HG4 : Hid (W.grownBy (W3.setCell ⟨br, 2, none⟩ (.bool true)) (some br)) := Lib.hid (HG3.out.trans (grownBy_setCell _ _ _))
      clear HB3 HG3 d2 fz2
      generalize W3.setCell ⟨br, 2, none⟩ (.bool true) = W4 at *
      go_wp2_with ((with_reducible show wpList _ _ _ (Oper.mk (some 55) _ _ _ _ _ :: _) _ _); refine wpList_make_full _ rfl _ _ 80 rfl W4.heap.size 9 i0 (strV []) 1 Tryd.underlying80 hi0 hz0 hz1 _ _ _ _ k rfl rfl rfl rfl (by rw [hz2]; omega) (by unfold maxLen; omega) (Nat.le_refl _) ?_; intro w2 hown2 hgrow2; have HO2 := Lib.hid hown2; have HG2 := Lib.hid hgrow2; clear hown2 hgrow2)
      exact HPOF.out W4 _ HB4.out HG4.out HO2.out HG2.out HF.out
    | some pq =>
      obtain ⟨line, r'⟩ := pq
      have hll : line.length ≤ 1000000000 := by have := congrArg List.length (cutB_some hcut).1; simp at this; omega
      have HNW : Hid (nextW rest = some (splitB 32 line, r')) := by show _ = _; rw [HNX.out, hcut]; rfl
      rw [show cutV rest = .tuple #[strV line, strV r', .bool true] by unfold cutV; rw [hcut]]
      have HWL : Hid ((splitB 32 line).length ≤ 1000000001) := splitB_len 32 line hll
      have hne := splitB_ne 32 line
      clear hcut HNX
      go_wp2_with fail
      refine (split_any line W2 HM2.out hll).mono ?_
      rintro e W3 ⟨rfl, hw3⟩
      have hb3 : Below W2.heap.size W2 W3 := by rw [hw3]; exact (Below.refl _ _).alloc (Nat.le_refl _) _
      have HB3 := Lib.hid (HB2.out.keep hb3)
      have HG3 := Lib.hid (HG2.out.trans (⟨hb3.os, hb3.tape, hb3.output, hb3.size, fun j hj _ => hb3.block j hj⟩ : W2.grownBy W3 (some br)))
      have HWD : Hid (Wds W3 (.slice (some ⟨W2.heap.size, 0, none⟩) (splitB 32 line).length (splitB 32 line).length) (splitB 32 line)) := by
        show Rd _ _ _ _ _
        rw [hw3]
        exact wds_new HWL.out
      have HBL := Lib.hid HB2.out.lt
      clear hw3 hb3 HB2 HG2 HM2
      have hbr3 : W2.heap.size ≠ br := fun e => by have := HBL.out; omega
      generalize W2.heap.size = b3 at *
      generalize splitB 32 line = ws at *
      obtain ⟨w0, wt, rfl⟩ : ∃ w0 wt, ws = w0 :: wt := by
        cases ws with
        | nil => exact absurd rfl hne
        | cons a l => exact ⟨a, l, rfl⟩
      have c3 : W3.cell? ⟨b3, 0, none⟩ = some (strV w0) := by
        obtain ⟨bb, off, hba, -, hc⟩ := HWD.out.row (by simp)
        simp only [Option.some.injEq, Addr.mk.injEq, and_true] at hba
        obtain ⟨rfl, rfl⟩ := hba
        have := hc 0 w0 rfl 0 (strV w0) rfl
        simpa using this
      obtain ⟨m, hm⟩ : ∃ m, m = wt.length := ⟨_, rfl⟩
      have hlen : (w0 :: wt).length = m + 1 := by rw [hm]; rfl
      rw [hlen] at HWD ⊢
      have HM := Lib.hid hm
      have HHD : Hid ((w0 :: wt).length = m + 1) := hlen
      clear hm hlen hne hll HWL
      by_cases hmk : m = k
      · subst hmk
        by_cases hf : w0 = first
        · have HF : Hid (wordsS first m ⟨rest, n, false⟩ = (⟨r', n + 1, false⟩, wt)) := by
            show _ = _
            rw [HWS.out, HNW.out]
            simp only
            rw [if_pos ⟨HHD.out, by rw [hf]; rfl⟩]
            rfl
          have hdf : (!decide (w0 = first)) = false := by simp [hf]
          have hkk : (((m + 1 : Nat) : Int) == (m : Int) + 1) = true := by simp
          have hk2 : ((m + 1 : Nat) : Int) = (m : Int) + 1 := by omega
          have d0 : W3.cell? ⟨br, 0, none⟩ = some (strV rest) := HB3.out.list0 rfl
          have fz0 : W3.frozen? ⟨br, 0, none⟩ = false := HB3.out.frozen 0
          have HSL : Hid (∀ X : World, (Instr.sliceAt 80 (.slice (some ⟨b3, 0, none⟩) (m + 1) (m + 1)) (some (.int .i64 1)) none none).run Tryd.prog X = .ok (sliced (some ⟨b3, 0, none⟩) 1 (m + 1) (m + 1) 1) X) := fun X => by
            have := run_sliceAt_slice (P := Tryd.prog) (w := X) 80 (.slice (some ⟨b3, 0, none⟩) (m + 1) (m + 1)) (some (.int .i64 1)) none none (by kernel_rfl)
            rw [this, run_slice_l (P := Tryd.prog) (w := X) 80 _ (m + 1) (m + 1) (by kernel_rfl) .i64 1 (by omega) (by omega), show Tryd.prog.elem 80 = 9 by kernel_rfl, Tryd.sizeOf9]
            rfl
          have HWT : Hid (Wds W3 (sliced (some ⟨b3, 0, none⟩) 1 (m + 1) (m + 1) 1) wt) := by
            have h := Rd.part HWD.out 1 (m + 1) (by omega) (by rw [HHD.out]; exact Nat.le_refl _)
            have e : ((w0 :: wt).take (m + 1)).drop 1 = wt := by rw [List.take_of_length_le (by rw [HHD.out]; exact Nat.le_refl _)]; rfl
            rw [e] at h
            exact h
          clear hf HWS HNW HWD HPOF
          have hsv : strV r' = .string ⟨r'.toArray⟩ := rfl
          go_upto_region 10 with ((with_reducible show wpList _ _ _ (Oper.mk (some 49) _ _ _ _ _ :: _) _ _); refine wpList_val rfl (exec_neS (x := w0) (y := first) rfl rfl rfl) ?_; rw [hdf])
          clear hsv
          have HB4 : Hid (Blk (W3.setCell ⟨br, 0, none⟩ (.string ⟨r'.toArray⟩)) br 52 (rdC ⟨r', n + 1, false⟩).toArray) := by
            have := HB3.out.set 0 (strV r')
            show Blk (W3.setCell ⟨br, 0, none⟩ (strV r')) _ _ _
            simpa [rdC] using this
          have HG4 : Hid (W.grownBy (W3.setCell ⟨br, 0, none⟩ (.string ⟨r'.toArray⟩)) (some br)) := Lib.hid (HG3.out.trans (grownBy_setCell _ _ _))
          have HWT4 : Hid (Wds (W3.setCell ⟨br, 0, none⟩ (.string ⟨r'.toArray⟩)) (sliced (some ⟨b3, 0, none⟩) 1 (m + 1) (m + 1) 1) wt) := Lib.hid (wds_far HWT.out hbr3 (strV r'))
          clear HB3 HG3 HWT d0 fz0 c3
          generalize W3.setCell ⟨br, 0, none⟩ (.string ⟨r'.toArray⟩) = W4 at *
          generalize sliced (some ⟨b3, 0, none⟩) 1 (m + 1) (m + 1) 1 = sv at *
          go_wp2_with ((with_reducible show wpList _ _ _ (Oper.mk (some 61) _ _ _ _ _ :: _) _ _); refine wpList_val rfl (exec_slice rfl rfl rfl rfl (HSL.out _)) ?_)
          exact HPOS.out _ _ _ _ HB4.out HG4.out HWT4.out HF.out
        · have HF : Hid (wordsS first m ⟨rest, n, false⟩ = (⟨rest, n + 1, true⟩, List.replicate m [])) := by
            show _ = _
            rw [HWS.out, HNW.out]
            simp only
            rw [if_neg (fun h => hf (by simpa using h.2))]
          have hdf : (!decide (w0 = first)) = true := by simp [hf]
          have hkk : (((m + 1 : Nat) : Int) == (m : Int) + 1) = true := by simp
          have hk2 : ((m + 1 : Nat) : Int) = (m : Int) + 1 := by omega
          clear hf HWS HNW HWD HPOS
          have d2 : W3.cell? ⟨br, 2, none⟩ = some (.bool false) := HB3.out.list0 rfl
          have fz2 : W3.frozen? ⟨br, 2, none⟩ = false := HB3.out.frozen 2
          go_upto_region 7 with ((with_reducible show wpList _ _ _ (Oper.mk (some 49) _ _ _ _ _ :: _) _ _); refine wpList_val rfl (exec_neS (x := w0) (y := first) rfl rfl rfl) ?_; rw [hdf])
          go_upto_region 8 with fail
          have HB4 : Hid (Blk (W3.setCell ⟨br, 2, none⟩ (.bool true)) br 52 (rdC ⟨rest, n + 1, true⟩).toArray) := by
            have := HB3.out.set 2 (.bool true)
            show Blk _ _ _ _
            simpa [rdC] using this
          have HG4 : Hid (W.grownBy (W3.setCell ⟨br, 2, none⟩ (.bool true)) (some br)) := Lib.hid (HG3.out.trans (grownBy_setCell _ _ _))
          clear HB3 HG3 d2 fz2
          generalize W3.setCell ⟨br, 2, none⟩ (.bool true) = W4 at *
          go_wp2_with ((with_reducible show wpList _ _ _ (Oper.mk (some 55) _ _ _ _ _ :: _) _ _); refine wpList_make_full _ rfl _ _ 80 rfl W4.heap.size 9 i0 (strV []) 1 Tryd.underlying80 hi0 hz0 hz1 _ _ _ _ m rfl rfl rfl rfl (by rw [hz2]; omega) (by unfold maxLen; omega) (Nat.le_refl _) ?_; intro w2 hown2 hgrow2; have HO2 := Lib.hid hown2; have HG2 := Lib.hid hgrow2; clear hown2 hgrow2)
          exact HPOF.out W4 _ HB4.out HG4.out HO2.out HG2.out HF.out
      · have HF : Hid (wordsS first k ⟨rest, n, false⟩ = (⟨rest, n + 1, true⟩, List.replicate k [])) := by
          show _ = _
          rw [HWS.out, HNW.out]
          simp only
          rw [if_neg (fun h => hmk (by have := h.1; rw [HHD.out] at this; omega))]
        have hkk : (((m + 1 : Nat) : Int) == (k : Int) + 1) = false := by simp; omega
        clear HWS HNW HWD HPOS
        have d2 : W3.cell? ⟨br, 2, none⟩ = some (.bool false) := HB3.out.list0 rfl
        have fz2 : W3.frozen? ⟨br, 2, none⟩ = false := HB3.out.frozen 2
        go_upto_region 7 with fail
        go_upto_region 8 with fail
        have HB4 : Hid (Blk (W3.setCell ⟨br, 2, none⟩ (.bool true)) br 52 (rdC ⟨rest, n + 1, true⟩).toArray) := by
          have := HB3.out.set 2 (.bool true)
          show Blk _ _ _ _
          simpa [rdC] using this
        have HG4 : Hid (W.grownBy (W3.setCell ⟨br, 2, none⟩ (.bool true)) (some br)) := Lib.hid (HG3.out.trans (grownBy_setCell _ _ _))
        clear HB3 HG3 d2 fz2
        generalize W3.setCell ⟨br, 2, none⟩ (.bool true) = W4 at *
        go_wp2_with ((with_reducible show wpList _ _ _ (Oper.mk (some 55) _ _ _ _ _ :: _) _ _); refine wpList_make_full _ rfl _ _ 80 rfl W4.heap.size 9 i0 (strV []) 1 Tryd.underlying80 hi0 hz0 hz1 _ _ _ _ k rfl rfl rfl rfl (by rw [hz2]; omega) (by unfold maxLen; omega) (Nat.le_refl _) ?_; intro w2 hown2 hgrow2; have HO2 := Lib.hid hown2; have HG2 := Lib.hid hgrow2; clear hown2 hgrow2)
        exact HPOF.out W4 _ HB4.out HG4.out HO2.out HG2.out HF.out
end Go.Proofs.YtjaaldeaknmmbaaDoor
namespace Go.Proofs.YtjaaldeaknmmbaaDoor
open Go.RowKit Go.Shelf

theorem trim_unsign (s : List UInt8) : Lib.trimPrefix s [45] = unsign s := by
  unfold Lib.trimPrefix Lib.hasPrefix unsign
  cases s with
  | nil => simp [List.isPrefixOf]
  | cons a l =>
    by_cases h : a = 45
    · subst h; simp [List.isPrefixOf]
    · simp [List.isPrefixOf, h, Ne.symm h]
theorem has_sign (s : List UInt8) : Lib.hasPrefix s [45] = decide (s.head? = some 45) := by
  unfold Lib.hasPrefix
  cases s with
  | nil => simp [List.isPrefixOf]
  | cons a l =>
    by_cases h : a = 45
    · subst h; simp [List.isPrefixOf]
    · simp [List.isPrefixOf, h, Ne.symm h]
theorem prefix_any (s : List UInt8) (w : World) : Calls Tryd.prog 54 #[strV s, .string ⟨#[45]⟩] w fun e w' => e = .returned (.tuple #[strV (unsign s), .bool (decide (s.head? = some 45))]) ∧ w' = w := by
  refine (Tryd.strings_CutPrefix ⟨s.toArray⟩ ⟨#[45]⟩ w).mono ?_
  rintro e w' ⟨rfl, rfl⟩
  refine ⟨?_, rfl⟩
  have e1 := trim_unsign s
  have e2 := has_sign s
  simp only [e1, e2, strV]
/-- What the reader's number answers. -/
def NumPost (br : Nat) (s : RdS) (x : List UInt8) (w : World) (e : Ending) (w' : World) : Prop :=
  ∃ v : Int, e = .returned (.int .i64 v) ∧ (∀ n, numS x = some n → v = n) ∧ Blk w' br 52 (rdC ⟨s.rest, s.n, (numS x).isNone⟩).toArray ∧ w.grownBy w' (some br)
theorem str_size (l : List UInt8) : (⟨l.toArray⟩ : ByteArray).size = l.length := by show l.toArray.size = _; simp
theorem ix_at (l : List UInt8) {k : Nat} {c : UInt8} (h : l[k]? = some c) (w : World) : (Instr.index 9 (strV l) (.int .i64 (k : Int))).run Tryd.prog w = .ok (.int .u8 c.toNat) w := by
  obtain ⟨hk, e⟩ := List.getElem?_eq_some_iff.1 h
  have := run_index_string (P := Tryd.prog) (w := w) 9 ⟨l.toArray⟩ .i64 (k : Int) Tryd.underlying9
  unfold strV
  rw [this, dif_pos ⟨by omega, by rw [str_size]; omega⟩]
  have e2 : ((⟨l.toArray⟩ : ByteArray)[((k : Int)).toNat]'(by rw [str_size]; omega)) = c := by
    show l.toArray[((k : Int)).toNat]'(by simp; omega) = c
    simp [e]
  rw [e2]
theorem exec_ix {w : World} {o : Oper} {ac : Act} {X Y : Operand} {l : List UInt8} {k : Nat} {c : UInt8} (ho : o.op = .index 9 X Y) (hx : ac.eval X = strV l) (hy : ac.eval Y = .int .i64 (k : Int)) (h : l[k]? = some c) : (execOp ac.eval o).run Tryd.prog w = .ok (.value (.int .u8 c.toNat)) w := by
  simp [execOp, ho, hx, hy, ix_at l h, Result.andThen]
theorem exec_lenS {w : World} {o : Oper} {ac : Act} {X : Operand} {l : List UInt8} (ho : o.op = .call { callee := .builtin .len, args := #[X], argTypes := #[9] }) (hx : ac.eval X = strV l) : (execOp ac.eval o).run Tryd.prog w = .ok (.value (.int .i64 (l.length : Int))) w := by
  have h := run_len_string (P := Tryd.prog) w 9 o.type ⟨l.toArray⟩ Tryd.underlying9
  rw [str_size] at h
  simp [execOp, ho, hx, resolve, invoke, builtin, strV, h, Result.andThen, goInt]
set_option maxRecDepth 100000 in
set_option maxHeartbeats 1600000 in
theorem rnumber_any (br : Nat) (rest x : List UInt8) (n : Nat) (W : World) (hb : Blk W br 52 (rdC ⟨rest, n, false⟩).toArray) (hl : x.length ≤ 1000000000) :
    Calls Tryd.prog 42 #[.pointer (some ⟨br, 0, none⟩), strV x] W (NumPost br ⟨rest, n, false⟩ x W) := by
  have HB := Lib.hid hb
  have HPOB : Hid (∀ (X : World) (v : Int), Blk X br 52 (rdC ⟨rest, n, false⟩).toArray → W.grownBy X (some br) → numS x = none → NumPost br ⟨rest, n, false⟩ x W (.returned (.int .i64 v)) (X.setCell ⟨br, 2, none⟩ (.bool true))) := fun X v hx hg h =>
    ⟨v, rfl, fun m hm => (by rw [h] at hm; cases hm), by rw [h]; have := hx.set 2 (.bool true); simpa [rdC] using this, hg.trans (grownBy_setCell _ _ _)⟩
  have HPOG : Hid (∀ (X : World) (v : Int), Blk X br 52 (rdC ⟨rest, n, false⟩).toArray → W.grownBy X (some br) → numS x = some v → NumPost br ⟨rest, n, false⟩ x W (.returned (.int .i64 v)) X) := fun X v hx hg h =>
    ⟨v, rfl, fun m hm => (by rw [h] at hm; exact Option.some.inj hm), by rw [h]; exact hx, hg⟩
  have HPR := Lib.hid (prefix_any x W)
  have HG0 : Hid (W.grownBy W (some br)) := Lib.hid (World.grownBy.refl _ _)
  obtain ⟨r, hr⟩ : ∃ r, r = unsign x := ⟨_, rfl⟩
  obtain ⟨ng, hng⟩ : ∃ ng, ng = decide (x.head? = some 45) := ⟨_, rfl⟩
  have HX1 : Hid ((∃ c ∈ r, isDig c = false) ∨ 19 < r.length → numS x = none) := fun h => num_bad (by rw [← hr]; exact h)
  have HX2 : Hid (∀ v : Int, (∀ c ∈ r, isDig c = true) → r.length ≤ 19 → v = (if ng = true then wrap64 (-(wrap64 (valN r))) else wrap64 (valN r)) → numS x = if decZ v = x then some v else none) := fun v h1 h2 h3 => by
    refine num_prog (by rw [← hr]; exact h1) (by rw [← hr]; exact h2) ?_
    rw [h3, hng, ← hr]
    simp only [decide_eq_true_eq]
  rw [← hr, ← hng] at HPR
  have hrl : r.length ≤ 1000000000 := by
    rw [hr]; unfold unsign
    split
    · simp; omega
    · exact hl
  generalize NumPost br ⟨rest, n, false⟩ x W = POST at *
  clear hb hr hng
  go_enter Tryd.func42, Tryd.ntmps42
  go_wp2_with fail
  refine HPR.out.mono ?_
  rintro e W1 ⟨rfl, hW⟩
  subst hW
  clear HPR
  obtain ⟨m, hm⟩ : ∃ m, m = r.length := ⟨_, rfl⟩
  have HMR := Lib.hid hm
  have hm6 : m ≤ 1000000000 := by omega
  have HLEN := Lib.hid (fun (w : World) (o : Oper) (ac : Act) (X : Operand) (ho : o.op = .call { callee := .builtin .len, args := #[X], argTypes := #[9] }) (hx : ac.eval X = strV r) => exec_lenS (w := w) ho hx)
  rw [← hm] at HLEN
  clear hm
  go_wp2_with ((with_reducible show wpList _ _ _ (Oper.mk (some 16) _ _ _ _ _ :: _) _ _); refine wpList_val rfl (HLEN.out _ _ _ _ rfl rfl) ?_)
  go_loopw [7, 17] (fun u i wr => ∃ k : Nat, k ≤ m ∧ k ≤ 19 ∧ i = .int .i64 k ∧ (∃ q : Nat, u = .int .u64 (q : Int) ∧ Hid (q = valN (r.take k))) ∧ Hid (∀ c ∈ r.take k, isDig c = true) ∧ wr = W1) (fun _ i _ => m - (intOf i).toNat)
  case atStart => exact ⟨0, Nat.zero_le _, Nat.zero_le _, rfl, ⟨0, rfl, rfl⟩, Lib.hid (by simp), rfl⟩
  case round =>
    obtain ⟨k, hk, hk19, rfl, ⟨q, rfl, HQ⟩, HD, hw⟩ := hrel
    obtain ⟨wo, rfl⟩ : ∃ wo : World, wo = wr := ⟨_, rfl⟩
    subst hw
    by_cases hlt : k < m
    · obtain ⟨c, hc⟩ : ∃ c, r[k]? = some c := ⟨_, List.getElem?_eq_getElem (by rw [← HMR.out]; exact hlt)⟩
      have HC := Lib.hid hc
      have hc8 := c.toNat_lt
      have d2 : wo.cell? ⟨br, 2, none⟩ = some (.bool false) := HB.out.list0 rfl
      have fz2 : wo.frozen? ⟨br, 2, none⟩ = false := HB.out.frozen 2
      obtain ⟨cn, hcn⟩ : ∃ cn : Nat, cn = c.toNat := ⟨_, rfl⟩
      have HCN := Lib.hid hcn
      have hIX := fun (w : World) (o : Oper) (ac : Act) (X Y : Operand) (ho : o.op = .index 9 X Y) (hx : ac.eval X = strV r) (hy : ac.eval Y = .int .i64 (k : Int)) => exec_ix (w := w) ho hx hy hc
      rw [← hcn] at hIX
      have HIX := Lib.hid hIX
      clear hc hIX hcn
      by_cases h1 : cn < 48
      · as_aux_lemma =>
        have HBD : Hid (numS x = none) := HX1.out (.inl ⟨c, List.mem_of_getElem? HC.out, by unfold isDig; simp; have := HCN.out; omega⟩)
        have h1z : (cn : Int) < 48 := by omega
        go_wp2_with (first | ((with_reducible show wpList _ _ _ (Oper.mk (some 22) _ _ _ _ _ :: _) _ _); refine wpList_val rfl (HIX.out _ _ _ _ _ rfl rfl rfl) ?_) | ((with_reducible show wpList _ _ _ (Oper.mk (some 27) _ _ _ _ _ :: _) _ _); refine wpList_val rfl (HIX.out _ _ _ _ _ rfl rfl rfl) ?_) | ((with_reducible show wpList _ _ _ (Oper.mk (some 41) _ _ _ _ _ :: _) _ _); refine wpList_val rfl (HIX.out _ _ _ _ _ rfl rfl rfl) ?_))
        exact HPOB.out _ _ HB.out HG0.out HBD.out
      · have h1z : ¬ (cn : Int) < 48 := by omega
        by_cases h2 : 57 < cn
        · as_aux_lemma =>
          have HBD : Hid (numS x = none) := HX1.out (.inl ⟨c, List.mem_of_getElem? HC.out, by unfold isDig; simp; have := HCN.out; omega⟩)
          have h2z : (57 : Int) < (cn : Int) := by omega
          go_wp2_with (first | ((with_reducible show wpList _ _ _ (Oper.mk (some 22) _ _ _ _ _ :: _) _ _); refine wpList_val rfl (HIX.out _ _ _ _ _ rfl rfl rfl) ?_) | ((with_reducible show wpList _ _ _ (Oper.mk (some 27) _ _ _ _ _ :: _) _ _); refine wpList_val rfl (HIX.out _ _ _ _ _ rfl rfl rfl) ?_) | ((with_reducible show wpList _ _ _ (Oper.mk (some 41) _ _ _ _ _ :: _) _ _); refine wpList_val rfl (HIX.out _ _ _ _ _ rfl rfl rfl) ?_))
          exact HPOB.out _ _ HB.out HG0.out HBD.out
        · have h2z : ¬ (57 : Int) < (cn : Int) := by omega
          by_cases h3 : 18 < k
          · as_aux_lemma =>
            have HBD : Hid (numS x = none) := HX1.out (.inr (by rw [← HMR.out]; omega))
            have h3z : (18 : Int) < (k : Int) := by omega
            go_wp2_with (first | ((with_reducible show wpList _ _ _ (Oper.mk (some 22) _ _ _ _ _ :: _) _ _); refine wpList_val rfl (HIX.out _ _ _ _ _ rfl rfl rfl) ?_) | ((with_reducible show wpList _ _ _ (Oper.mk (some 27) _ _ _ _ _ :: _) _ _); refine wpList_val rfl (HIX.out _ _ _ _ _ rfl rfl rfl) ?_) | ((with_reducible show wpList _ _ _ (Oper.mk (some 41) _ _ _ _ _ :: _) _ _); refine wpList_val rfl (HIX.out _ _ _ _ _ rfl rfl rfl) ?_))
            exact HPOB.out _ _ HB.out HG0.out HBD.out
          · as_aux_lemma =>
            have h3z : ¬ (18 : Int) < (k : Int) := by omega
            have hq19 : q < 1000000000000000000 := by
              have hv := valN_lt (l := r) k HD.out
              rw [← HQ.out] at hv
              have hp : (10 : Nat) ^ k ≤ 10 ^ 18 := Nat.pow_le_pow_right (by omega) (by omega)
              have : (10 : Nat) ^ 18 = 1000000000000000000 := rfl
              omega
            obtain ⟨dg, hdg⟩ : ∃ dg : Nat, dg = cn - 48 := ⟨_, rfl⟩
            have hd9 : dg ≤ 9 := by omega
            have hw1 : IntKind.u64.wrap (10 * (q : Int)) = 10 * (q : Int) := by simp [IntKind.wrap, IntKind.signed, IntKind.bits]; omega
            have hw2 : IntKind.u8.wrap ((cn : Int) - 48) = (dg : Int) := by simp [IntKind.wrap, IntKind.signed, IntKind.bits]; omega
            have hw3 : IntKind.u64.wrap (dg : Int) = (dg : Int) := by simp [IntKind.wrap, IntKind.signed, IntKind.bits]; omega
            have hw4 : IntKind.u64.wrap (10 * (q : Int) + (dg : Int)) = 10 * (q : Int) + (dg : Int) := by simp [IntKind.wrap, IntKind.signed, IntKind.bits]; omega
            have HQ2 : Hid (10 * q + dg = valN (r.take (k + 1))) := by
              show _ = _
              rw [valN_take HC.out, ← HCN.out, ← HQ.out, hdg]
            have HD2 : Hid (∀ y ∈ r.take (k + 1), isDig y = true) := fun y hy => by
              rw [take_snocB HC.out] at hy
              rcases List.mem_append.1 hy with hy | hy
              · exact HD.out y hy
              · rw [List.mem_singleton.1 hy]
                unfold isDig
                rw [← HCN.out]
                simp; omega
            clear hdg d2 fz2
            go_wp2_with (first | ((with_reducible show wpList _ _ _ (Oper.mk (some 22) _ _ _ _ _ :: _) _ _); refine wpList_val rfl (HIX.out _ _ _ _ _ rfl rfl rfl) ?_) | ((with_reducible show wpList _ _ _ (Oper.mk (some 27) _ _ _ _ _ :: _) _ _); refine wpList_val rfl (HIX.out _ _ _ _ _ rfl rfl rfl) ?_) | ((with_reducible show wpList _ _ _ (Oper.mk (some 41) _ _ _ _ _ :: _) _ _); refine wpList_val rfl (HIX.out _ _ _ _ _ rfl rfl rfl) ?_))
            go_roundw
            case rel => exact ⟨k + 1, by omega, by omega, by go_num, ⟨10 * q + dg, by first | rfl | (congr 1; omega), HQ2⟩, HD2, (by first | trivial | rfl)⟩
            case measure => simp [intOf]; omega
    · obtain rfl : k = m := by omega
      have HDA : Hid (∀ c ∈ r, isDig c = true) := by
        have h := HD.out
        rw [List.take_of_length_le (by rw [← HMR.out]; exact Nat.le_refl _)] at h
        exact h
      have HQA : Hid (q = valN r) := by
        have h := HQ.out
        rw [List.take_of_length_le (by rw [← HMR.out]; exact Nat.le_refl _)] at h
        exact h
      have HR19 : Hid (r.length ≤ 19) := by show _ ≤ _; rw [← HMR.out]; exact hk19
      clear HD HQ
      obtain ⟨v, hv⟩ : ∃ v : Int, v = if ng = true then wrap64 (-(wrap64 q)) else wrap64 q := ⟨_, rfl⟩
      have HV : Hid (numS x = if decZ v = x then some v else none) := HX2.out v HDA.out HR19.out (by rw [hv, HQA.out])
      have hvb : -9223372036854775808 ≤ v ∧ v ≤ 9223372036854775807 := by rw [hv]; unfold wrap64; split <;> omega
      have hN := number_any v wo hvb.1 hvb.2
      clear HX1 HX2 HDA HQA HR19
      have key : ∀ (u : Bool), ng = u → True := fun _ _ => trivial
      cases ng with
      | true => as_aux_lemma =>
        have hv2 : wrap64 (-(wrap64 (q : Int))) = v := by rw [hv, if_pos (Eq.refl true)]
        clear hv
        go_wp2_with fail
        refine hN.mono ?_
        rintro e W2 ⟨rfl, hb2⟩
        have HB2 := Lib.hid (HB.out.keep hb2)
        have HG2 : Hid (wo.grownBy W2 (some br)) := Lib.hid ⟨hb2.os, hb2.tape, hb2.output, hb2.size, fun j hj _ => hb2.block j hj⟩
        rw [show (Value.string ⟨(decZ v).toArray⟩) = strV (decZ v) from rfl]
        clear hb2 hN
        by_cases hz : decZ v = x
        · have HS : Hid (numS x = some v) := by show _ = _; rw [HV.out, if_pos hz]
          have hdz : (!decide (decZ v = x)) = false := by simp [hz]
          clear hz HV
          go_wp2_with ((with_reducible show wpList _ _ _ (Oper.mk (some 54) _ _ _ _ _ :: _) _ _); refine wpList_val rfl (exec_neS (x := decZ v) (y := x) rfl rfl rfl) ?_; rw [hdz])
          exact HPOG.out _ _ HB2.out HG2.out HS.out
        · have HS : Hid (numS x = none) := by show _ = _; rw [HV.out, if_neg hz]
          have hdz : (!decide (decZ v = x)) = true := by simp [hz]
          have d2 : W2.cell? ⟨br, 2, none⟩ = some (.bool false) := HB2.out.list0 rfl
          have fz2 : W2.frozen? ⟨br, 2, none⟩ = false := HB2.out.frozen 2
          clear hz HV
          go_wp2_with ((with_reducible show wpList _ _ _ (Oper.mk (some 54) _ _ _ _ _ :: _) _ _); refine wpList_val rfl (exec_neS (x := decZ v) (y := x) rfl rfl rfl) ?_; rw [hdz])
          exact HPOB.out _ _ HB2.out HG2.out HS.out
      | false => as_aux_lemma =>
        have hv2 : wrap64 (q : Int) = v := by rw [hv, if_neg Bool.false_ne_true]
        clear hv
        go_wp2_with fail
        refine hN.mono ?_
        rintro e W2 ⟨rfl, hb2⟩
        have HB2 := Lib.hid (HB.out.keep hb2)
        have HG2 : Hid (wo.grownBy W2 (some br)) := Lib.hid ⟨hb2.os, hb2.tape, hb2.output, hb2.size, fun j hj _ => hb2.block j hj⟩
        rw [show (Value.string ⟨(decZ v).toArray⟩) = strV (decZ v) from rfl]
        clear hb2 hN
        by_cases hz : decZ v = x
        · have HS : Hid (numS x = some v) := by show _ = _; rw [HV.out, if_pos hz]
          have hdz : (!decide (decZ v = x)) = false := by simp [hz]
          clear hz HV
          go_wp2_with ((with_reducible show wpList _ _ _ (Oper.mk (some 54) _ _ _ _ _ :: _) _ _); refine wpList_val rfl (exec_neS (x := decZ v) (y := x) rfl rfl rfl) ?_; rw [hdz])
          exact HPOG.out _ _ HB2.out HG2.out HS.out
        · have HS : Hid (numS x = none) := by show _ = _; rw [HV.out, if_neg hz]
          have hdz : (!decide (decZ v = x)) = true := by simp [hz]
          have d2 : W2.cell? ⟨br, 2, none⟩ = some (.bool false) := HB2.out.list0 rfl
          have fz2 : W2.frozen? ⟨br, 2, none⟩ = false := HB2.out.frozen 2
          clear hz HV
          go_wp2_with ((with_reducible show wpList _ _ _ (Oper.mk (some 54) _ _ _ _ _ :: _) _ _); refine wpList_val rfl (exec_neS (x := decZ v) (y := x) rfl rfl rfl) ?_; rw [hdz])
          exact HPOB.out _ _ HB2.out HG2.out HS.out
end Go.Proofs.YtjaaldeaknmmbaaDoor
