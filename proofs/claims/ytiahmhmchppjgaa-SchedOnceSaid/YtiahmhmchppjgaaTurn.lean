/- append(m[k:], m[:k]...) onto a row of the call's own: in its place where there is room, else in a new row. -/
import Derived.Test.YtiahmhmchppjgaaP2
import Derived.Deep.RegionLaw
import Derived.Deep.RegionLawGrows
import Derived.Laws.IdiomCopy
namespace Go.Proofs.Ytiahmhmchppjgaa
open Go.RowKit Go.Shelf
open Sched (Sp bad)

theorem belowCells {B : Nat} {a : World} (b : Nat) (hb : B ≤ b) : ∀ (vs : List Value) (o : Nat) {w : World}, Below B a w → Below B a (w.setCells b o vs)
  | [], _, _, h => h
  | _ :: r, o, _, h => belowCells b hb r (o + 1) (h.setCell (p := ⟨b, o, none⟩) hb _)

theorem step_turn {ops : Array Oper} {o : Oper} {a : Act} {w : World} {K : Act → World → Prop} {Q : Exit → Act → World → Prop} {E : Prop} (hg : o.guard = none) (s x : Operand)
    (hop : o.op = Op.call { callee := Callee.builtin Builtin.append, args := #[s, x], argTypes := #[29, 29] }) {base g cap k : Nat} {l : List Sp}
    (hown : w.ownsRow base 23 2 (.slice (some ⟨g, 0, none⟩) l.length cap) l.length (l.flatMap encSp)) (hk : k < l.length) (hlen : l.length ≤ 60) (hbd : ∀ s ∈ l, I64 s.1 ∧ I64 s.2) (hbase : base ≤ w.heap.size)
    (hs : a.eval s = .slice (some ⟨g, k * 2, none⟩) (l.length - k) (cap - k)) (hx : a.eval x = .slice (some ⟨g, 0, none⟩) k cap)
    (hK : ∀ v' w', Spans w' v' (l.drop k ++ l.take k) → Below base w w' → K (a.put o.dst v') w') :
    if Region.wanted o (yielded ops a.tmps) = true then Oper.wp Try.prog o a w K Q else E := by
  obtain ⟨i, hi, hz, hsi, hby⟩ := info_parts E29.info
  have hll : (l.drop k ++ l.take k).length = l.length := by simp; omega
  have hbd' : ∀ s ∈ l.drop k ++ l.take k, I64 s.1 ∧ I64 s.2 := fun s hs => hbd s (by
    rcases List.mem_append.1 hs with h | h
    · exact List.mem_of_mem_drop h
    · exact List.mem_of_mem_take h)
  have hsplit : l.flatMap encSp = (l.take k).flatMap encSp ++ (l.drop k).flatMap encSp := by rw [← List.flatMap_append, List.take_append_drop]
  have htl : ((l.take k).flatMap encSp).length = k * 2 := by rw [rowLen encSp_len]; simp; omega
  have hdl : ((l.drop k).flatMap encSp).length = (l.length - k) * 2 := by rw [rowLen encSp_len]; simp
  have hcells : ∀ j u, (l.flatMap encSp)[j]? = some u → w.cell? ⟨g, j, none⟩ = some u := fun j u hu => by
    have hj := (List.getElem?_eq_some_iff.1 hu).1
    rw [rowLen encSp_len] at hj
    rw [hown.cellAt j hj, hu]
  have hnews : ∀ j u, ((l.take k).flatMap encSp)[j]? = some u → w.cell? ((⟨g, 0, none⟩ : Addr).add j) = some u := fun j u hu => by
    rw [Addr.add_lit, Nat.zero_add]
    refine hcells j u ?_
    rw [hsplit, List.getElem?_append_left (List.getElem?_eq_some_iff.1 hu).1, hu]
  have holds : ∀ j u, ((l.drop k).flatMap encSp)[j]? = some u → w.cell? ((⟨g, k * 2, none⟩ : Addr).add j) = some u := fun j u hu => by
    rw [Addr.add_lit]
    refine hcells _ u ?_
    rw [hsplit, List.getElem?_append_right (by omega), htl, show k * 2 + j - k * 2 = j by omega, hu]
  obtain ⟨_, h0 | ⟨g', cap', cur, e, hbg, hh, hc1, hc2, hsz, htk⟩⟩ := hown
  · omega
  · simp only [Value.slice.injEq, Option.some.injEq, Addr.mk.injEq] at e
    obtain ⟨⟨rfl, _, _⟩, _, rfl⟩ := e
    have hgl : g < w.heap.size := (Array.getElem?_eq_some_iff.1 hh).1
    by_cases hroom : l.length - k + k ≤ cap - k
    · refine step_append_room hg s x 29 hop 23 i 2 Try.underlying29 hi hsi g (k * 2) (l.length - k) (cap - k) hs ⟨g, 0, none⟩ k cap ((l.take k).flatMap encSp) hx htl hnews (rowOne encSp_one _) hroom ?_ ?_
      · intro j hj
        rw [htl] at hj
        constructor
        · simp [World.cell?, hh]; omega
        · simp [World.frozen?, hh]
      · refine hK _ _ ?_ (belowCells g hbg _ _ (Below.refl _ _))
        have hin := World.cell?_setCells_in g ((l.take k).flatMap encSp) (k * 2 + (l.length - k) * 2) w (fun j hj => by rw [htl] at hj; simp [World.cell?, hh]; omega)
        have hout := World.cell?_setCells_out g ((l.take k).flatMap encSp) (k * 2 + (l.length - k) * 2) w
        have each : ∀ j u, ((l.drop k ++ l.take k).flatMap encSp)[j]? = some u → (w.setCells g (k * 2 + (l.length - k) * 2) ((l.take k).flatMap encSp)).cell? ⟨g, k * 2 + j, none⟩ = some u := by
          intro j u hu
          rw [List.flatMap_append] at hu
          by_cases hj : j < (l.length - k) * 2
          · rw [List.getElem?_append_left (by omega)] at hu
            rw [hout _ (fun _ _ => by dsimp only; omega)]
            have := holds j u hu
            rwa [Addr.add_lit] at this
          · rw [List.getElem?_append_right (by omega), hdl] at hu
            obtain ⟨hlt, he⟩ := List.getElem?_eq_some_iff.1 hu
            have := hin (j - (l.length - k) * 2) hlt
            rw [he, show k * 2 + (l.length - k) * 2 + (j - (l.length - k) * 2) = k * 2 + j by omega] at this
            exact this
        refine ⟨_, _, by rw [hll, show l.length - k + k = l.length by omega], by rw [hll]; omega, by unfold maxLen at hc2; omega, by rw [hll]; omega, hbd', by simp, .inr ⟨g, k * 2, rfl, ?_, fun j hj => ?_⟩⟩
        · exact Nat.lt_of_lt_of_le hgl (belowCells g (Nat.le_refl g) _ _ (Below.refl g w)).size
        · have hrow := rowSp hj
          exact ⟨each _ _ hrow.1, by rw [Nat.add_assoc]; exact each _ _ hrow.2⟩
    · refine step_append_grows hg s x 29 hop 23 i _ 2 16 Try.underlying29 hi hz hsi hby E29.zs E29.pos (some ⟨g, k * 2, none⟩) (l.length - k) (cap - k) ((l.drop k).flatMap encSp) hs (by simp) hdl (fun b hb => by cases hb; exact holds) ⟨g, 0, none⟩ k cap ((l.take k).flatMap encSp) hx htl hnews (rowOne encSp_one _) (by omega) (by unfold maxLen; omega) (by omega) ?_
      intro v' w' hown' hgr
      rw [← List.flatMap_append, show l.length - k + k = (l.drop k ++ l.take k).length by rw [hll]; omega] at hown'
      refine hK v' w' (Spans.of_owns hown' (by rw [hll]; omega) hbd') ?_
      exact (Below.refl base w).grown hgr hbase (by simp)
end Go.Proofs.Ytiahmhmchppjgaa
