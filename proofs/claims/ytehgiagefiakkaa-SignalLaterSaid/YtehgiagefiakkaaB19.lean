/- The plain law of SignalLower and SignalLater: a receiver's answer hangs on the signals that are heard alone. -/
import Derived.Test.YtehgiagefiakkaaB7
import Derived.Test.YtehgiagefiakkaaB14
namespace Go.Proofs.Ytehgiagefiakkaa
open Go.RowKit Go.Shelf
open Sched (Sp bad)
open Sig

theorem hits_map (l : List Sg) (inn : Sp) (th : Int) : ∀ k, k ≤ l.length → (hitsTo l inn th k).map (fun i => l[i]?) = ((l.take k).filter (hit inn th)).map some := by
  intro k
  induction k with
  | zero => intro _; simp [hitsTo]
  | succ k ih =>
    intro hk
    have hs : l[k]? = some l[k] := List.getElem?_eq_getElem (by omega)
    rw [hitsTo_succ l inn th k hs, List.take_succ_eq_append_getElem (by omega), List.filter_append, List.map_append, ← ih (by omega)]
    cases h : hit inn th l[k] <;> simp [h, hs]
/-- What a receiver makes of those that are heard. -/
def judgeS (slot win : Sp) : List Sg → Sn
  | [] => ⟨0, 0, 0, []⟩
  | [s] => if clr s slot win then ⟨2, s.sp.1, s.n, s.b⟩ else ⟨1, 0, 0, []⟩
  | _ => ⟨1, 0, 0, []⟩
theorem judge_filter (l : List Sg) (slot win : Sp) (th : Int) : judge l slot win th = judgeS slot win (l.filter (hit slot th)) := by
  have h := hits_map l slot th l.length (Nat.le_refl _)
  rw [List.take_length] at h
  unfold judge
  generalize hitsTo l slot th l.length = hs at *
  generalize l.filter (hit slot th) = fs at *
  match hs, fs, h with
  | [], [], _ => rfl
  | [i], [s], h =>
    simp only [List.map_cons, List.map_nil, List.cons.injEq, and_true] at h
    simp only [judgeOf, judgeS, h]
  | i :: j :: hs, s :: s' :: fs, _ => rfl
  | [], _ :: _, h => simp at h
  | _ :: _, [], h => simp at h
  | [_], _ :: _ :: _, h => simp at h
  | _ :: _ :: _, [_], h => simp at h
theorem hit_lev {slot : Sp} {th : Int} {s : Sg} (h : hit slot th s = true) : th ≤ s.lv ∧ 1 ≤ s.lv := by
  unfold hit strong at h
  simp only [Bool.and_eq_true, decide_eq_true_eq] at h
  exact ⟨h.1.1.1, h.1.1.2⟩
theorem judge_strong (l : List Sg) (slot win : Sp) (th : Int) : judge (l.filter fun s => decide (th ≤ s.lv)) slot win th = judge l slot win th := by
  rw [judge_filter, judge_filter, List.filter_filter]
  congr 1
  apply List.filter_congr
  intro s _
  cases h : hit slot th s
  · simp
  · simp [(hit_lev h).1]
theorem hit_lower {slot : Sp} {th th' : Int} {s : Sg} (h : hit slot th s = true) (hl : th' ≤ th ∨ th' ≤ 1) : hit slot th' s = true := by
  have := hit_lev h
  unfold hit strong at h ⊢
  simp only [Bool.and_eq_true, decide_eq_true_eq] at h ⊢
  refine ⟨⟨⟨?_, h.1.1.2⟩, h.1.2⟩, h.2⟩
  omega
theorem hits_lower {l : List Sg} {slot : Sp} {th th' : Int} (hl : th' ≤ th ∨ th' ≤ 1) {k : Nat} : ∀ i ∈ hitsTo l slot th k, i ∈ hitsTo l slot th' k := by
  intro i hi
  unfold hitsTo at *
  simp only [List.mem_filter] at hi ⊢
  refine ⟨hi.1, ?_⟩
  have := hi.2
  unfold hitAt at *
  cases h : l[i]? with
  | none => simp [h] at this
  | some s => simp only [h] at this ⊢; exact hit_lower this hl

/-! later -/
def lateSp (d : Int) (s : Sp) : Sp := (s.1 + d, s.2 + d)
def late (d : Int) (s : Sg) : Sg := { s with sp := lateSp d s.sp }
def farSp (s : Sp) : Bool := decide (s.1 < 0) || decide (s.2 < 0) || decide (549755813888 < s.1) || decide (549755813888 < s.2)
theorem bad_late {s : Sp} {d : Int} (h : farSp s = false) (h0 : 0 ≤ d) (h1 : d ≤ 4294967295) : bad (lateSp d s) = bad s := by
  unfold farSp at h
  unfold bad lateSp
  simp only [Bool.or_eq_false_iff, decide_eq_false_iff_not] at h
  rw [Bool.eq_iff_iff]
  simp only [Bool.or_eq_true, decide_eq_true_eq]
  omega
theorem meets_late {a b : Sp} {d : Int} (ha : farSp a = false) (hb : farSp b = false) (h0 : 0 ≤ d) (h1 : d ≤ 4294967295) : meets (lateSp d a) (lateSp d b) = meets a b := by
  unfold meets
  rw [bad_late ha h0 h1, bad_late hb h0 h1]
  simp [lateSp]
theorem within_late {a b : Sp} {d : Int} (ha : farSp a = false) (hb : farSp b = false) (h0 : 0 ≤ d) (h1 : d ≤ 4294967295) : within (lateSp d a) (lateSp d b) = within a b := by
  unfold within
  rw [bad_late ha h0 h1, bad_late hb h0 h1]
  simp [lateSp]
theorem badS_late {s : Sg} {d : Int} (h : farSp s.sp = false) (h0 : 0 ≤ d) (h1 : d ≤ 4294967295) : badS (late d s) = badS s := by
  unfold badS late
  simp only
  rw [bad_late h h0 h1]
theorem whole_late {s : Sg} {d : Int} (h : farSp s.sp = false) (h0 : 0 ≤ d) (h1 : d ≤ 4294967295) : whole (late d s) = whole s := by
  have he : (late d s).sp.2 - (late d s).sp.1 = s.sp.2 - s.sp.1 := by simp only [late, lateSp]; omega
  unfold whole
  rw [badS_late h h0 h1]
  simp only [he]
  rfl
theorem hit_late {s : Sg} {slot : Sp} {th d : Int} (h : farSp s.sp = false) (hs : farSp slot = false) (h0 : 0 ≤ d) (h1 : d ≤ 4294967295) : hit (lateSp d slot) th (late d s) = hit slot th s := by
  unfold hit strong
  rw [badS_late h h0 h1]
  simp only [late]
  rw [meets_late h hs h0 h1]
  rfl
theorem clr_late {s : Sg} {slot win : Sp} {d : Int} (h : farSp s.sp = false) (hs : farSp slot = false) (hw : farSp win = false) (h0 : 0 ≤ d) (h1 : d ≤ 4294967295) : clr (late d s) (lateSp d slot) (lateSp d win) = clr s slot win := by
  unfold clr
  rw [whole_late h h0 h1, bad_late hw h0 h1]
  simp only [late]
  rw [within_late h hs h0 h1]
  simp [lateSp]
def lateSn (d : Int) (x : Sn) : Sn := if x.kind = 2 then { x with at_ := x.at_ + d } else x
theorem judge_late {l : List Sg} {slot win : Sp} {th d : Int} (hl : ∀ s ∈ l, farSp s.sp = false) (hs : farSp slot = false) (hw : farSp win = false) (h0 : 0 ≤ d) (h1 : d ≤ 4294967295) :
    judge (l.map (late d)) (lateSp d slot) (lateSp d win) th = lateSn d (judge l slot win th) := by
  rw [judge_filter, judge_filter, List.filter_map]
  have e : l.filter (hit (lateSp d slot) th ∘ late d) = l.filter (hit slot th) := List.filter_congr fun s hm => hit_late (hl s hm) hs h0 h1
  rw [e]
  have hf : ∀ s ∈ l.filter (hit slot th), farSp s.sp = false := fun s hm => hl s (List.mem_filter.1 hm).1
  generalize l.filter (hit slot th) = fs at *
  match fs, hf with
  | [], _ => rfl
  | [s], hf =>
    simp only [List.map_cons, List.map_nil, judgeS]
    rw [clr_late (hf s (by simp)) hs hw h0 h1]
    cases clr s slot win <;> simp [lateSn, late, lateSp]
  | _ :: _ :: _, _ => rfl
end Go.Proofs.Ytehgiagefiakkaa
