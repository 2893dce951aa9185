/- A map from integers to truths that a call makes: what has been seen. (Text of no seat: YtjaaldeaknmmbaaDoor stands for the seat's name.) -/
import Derived.Test.YtjaaldeaknmmbaaDoorLA
import Derived.Maps.OwnSet
import Derived.Maps.OwnOps
import Derived.WalkSpells
namespace Go.Proofs.YtjaaldeaknmmbaaDoor
open Go.RowKit
open Go.Maps

/-- Block b is a map of at most n entries; the keys that are there, each with true, are rs. -/
def Seen (P : Program) (k e : TypeId) (w : World) (b n : Nat) (rs : List Int) : Prop :=
  ∃ D : DataW Unit, w.ownsMap P k (plainElem P e) b n D ∧ IsMap D ∧ ∀ r : Int, D.atKey (.int .i64 r) (.lit (.bool false)) = .lit (.bool (rs.contains r))
section
variable {P : Program} {k e t : TypeId} {w w' : World} {b n : Nat} {rs : List Int}
theorem Seen.made (w : World) : Seen P k e (w.alloc (.map #[] 0)) w.heap.size 0 [] := ⟨.map [], World.ownsMap_made w P k _, isMap_empty, fun _ => rfl⟩
theorem Seen.kept {row : Option Nat} (h : Seen P k e w b n rs) (hg : w.grownBy w' row) (hne : some b ≠ row) : Seen P k e w' b n rs := by
  obtain ⟨D, h1, h2, h3⟩ := h
  exact ⟨D, h1.kept hg hne, h2, h3⟩
theorem Seen.keep (h : Seen P k e w b n rs) (hb : Below w.heap.size w w') : Seen P k e w' b n rs :=
  h.kept (row := none) ⟨hb.os, hb.tape, hb.output, hb.size, fun k hk _ => hb.block k hk⟩ (by simp)
theorem Seen.lt (h : Seen P k e w b n rs) : b < w.heap.size := by
  obtain ⟨D, h1, _⟩ := h
  exact h1.lt
theorem exec_seen (hk : P.underlying k = some (.int .i64)) (he : P.underlying e = some .bool) (ht : P.underlying t = some (.map k e)) (hz : ∀ w, (zeroValue e).run P w = .ok (.bool false) w) (h : Seen P k e w b n rs)
    {o : Oper} {a : Act} {m x : Operand} (ho : o.op = .lookup t m x false) (hm : a.eval m = .map (some b)) {r : Int} (hx : a.eval x = .int .i64 r) (hr : I64 r) : (execOp a.eval o).run P w = .ok (.value (.bool (rs.contains r))) w := by
  obtain ⟨D, h1, h2, h3⟩ := h
  have hkey : keyOf P k (.int .i64 r) = some (.int .i64 r) := keyOf_int_mk hk (WalkArith.wf_i64 ⟨hr.1, hr.2⟩)
  obtain ⟨v, ps, hrun, hv⟩ := h1.lookup (int_keyed hk) ht (hz w) (plainElem_bool he false) hkey
  rw [h3 r] at hv
  have hvb : v = .bool (rs.contains r) := by
    unfold plainElem at hv
    rw [he] at hv
    cases v <;> simp at hv
    obtain ⟨hv, _⟩ := hv
    simp [hv]
  subst hvb
  simp [execOp, ho, hm, hx, hrun, Result.andThen]
theorem run_see (hk : P.underlying k = some (.int .i64)) (he : P.underlying e = some .bool) (ht : P.underlying t = some (.map k e)) (h : Seen P k e w b n rs) (hn : n ≤ 1000000) {r : Int} (hr : I64 r) :
    ∃ w', (Instr.mapUpdate t (.map (some b)) (.int .i64 r) (.bool true)).run P w = .ok () w' ∧ Seen P k e w' b (n + 1) (r :: rs) ∧ w.grownBy w' (some b) := by
  obtain ⟨D, h1, h2, h3⟩ := h
  have hkey : keyOf P k (.int .i64 r) = some (.int .i64 r) := keyOf_int_mk hk (WalkArith.wf_i64 ⟨hr.1, hr.2⟩)
  obtain ⟨w', hrun, q1, q2⟩ := h1.update (int_keyed hk) ht (by unfold maxLen; omega) hkey (plainElem_bool he true)
  refine ⟨w', hrun, ⟨_, q1, h2.put _ _, fun s => ?_⟩, q2⟩
  by_cases hs : s = r
  · subst hs
    rw [atKey_put_same h2 ((int_keyed hk).key hkey)]
    simp
  · rw [atKey_put_other (by simpa using hs), h3 s]
    simp [hs]
variable {ops : Array Oper} {rest : List Oper} {o : Oper} {a : Act} {Q : Exit → Act → World → Prop}
theorem wpList_seen (hk : P.underlying k = some (.int .i64)) (he : P.underlying e = some .bool) (ht : P.underlying t = some (.map k e)) (hz : ∀ w, (zeroValue e).run P w = .ok (.bool false) w) (h : Seen P k e w b n rs)
    {m x : Operand} (ho : o.op = .lookup t m x false) (hw : Region.wanted o (yielded ops a.tmps) = true) (hm : a.eval m = .map (some b)) {r : Int} (hx : a.eval x = .int .i64 r) (hr : I64 r) (hK : wpList P ops Q rest (a.put o.dst (.bool (rs.contains r))) w) : wpList P ops Q (o :: rest) a w :=
  wpList_val hw (exec_seen hk he ht hz h ho hm hx hr) hK
theorem wpList_see (hk : P.underlying k = some (.int .i64)) (he : P.underlying e = some .bool) (ht : P.underlying t = some (.map k e)) (h : Seen P k e w b n rs) (hn : n ≤ 1000000)
    {m x v : Operand} (ho : o.op = .mapUpdate t m x v) (hw : Region.wanted o (yielded ops a.tmps) = true) (hm : a.eval m = .map (some b)) {r : Int} (hx : a.eval x = .int .i64 r) (hr : I64 r) (hv : a.eval v = .bool true)
    (hK : ∀ w', Seen P k e w' b (n + 1) (r :: rs) → w.grownBy w' (some b) → wpList P ops Q rest (a.put o.dst undef) w') : wpList P ops Q (o :: rest) a w := by
  obtain ⟨w', hrun, q1, q2⟩ := run_see hk he ht h hn hr
  refine wpList_step fun _ hk' => ?_
  rw [if_pos hw]
  unfold Oper.wp
  simp [execOp, ho, hm, hx, hv, hrun, Result.andThen]
  exact hk' _ _ (hK w' q1 q2)
end
end Go.Proofs.YtjaaldeaknmmbaaDoor
