/- append(m[k:], m[:k]...) onto a row of the call's own: in its place where there is room, else in a new row. (Text of no seat: Ytmflnbdajaiahaa stands for the seat's name.) -/
import Derived.Test.YtmflnbdajaiahaaAgg
import Derived.Deep.RegionLaw
import Derived.Deep.RegionLawGrows
import Derived.Laws.IdiomCopy
namespace Go.Proofs.Ytmflnbdajaiahaa
open Go.RowKit

theorem belowCells {B : Nat} {a : World} (b : Nat) (hb : B ≤ b) : ∀ (vs : List Value) (o : Nat) {w : World}, Below B a w → Below B a (w.setCells b o vs)
  | [], _, _, h => h
  | _ :: r, o, _, h => belowCells b hb r (o + 1) (h.setCell (p := ⟨b, o, none⟩) hb _)

theorem step_turn {P : Program} {α : Type} {enc : α → List Value} {size bytes : Nat} {t e : TypeId} {z : Value} (E : Elem P t e z size bytes) (hs0 : ∀ x, (enc x).length = size) (h1 : ∀ x, ∀ u ∈ enc x, u.oneCell' = true)
    {ops : Array Oper} {o : Oper} {a : Act} {w : World} {K : Act → World → Prop} {Q : Exit → Act → World → Prop} {D : Prop} (hg : o.guard = none) (s x : Operand)
    (hop : o.op = Op.call { callee := Callee.builtin Builtin.append, args := #[s, x], argTypes := #[t, t] }) {base g cap k n : Nat} {l : List α} (hn : l.length = n)
    (hown : w.ownsRow base e size (.slice (some ⟨g, 0, none⟩) n cap) n (l.flatMap enc)) (hk : k < n) (hlen : n * bytes ≤ 140737488351232) (hbase : base ≤ w.heap.size)
    (hs : a.eval s = .slice (some ⟨g, k * size, none⟩) (n - k) (cap - k)) (hx : a.eval x = .slice (some ⟨g, 0, none⟩) k cap)
    (hK : ∀ v' w', Rd enc size w' v' (l.drop k ++ l.take k) → Below base w w' → K (a.put o.dst v') w') :
    if Region.wanted o (yielded ops a.tmps) = true then Oper.wp P o a w K Q else D := by
  obtain ⟨i, hi, hz, hsi, hby⟩ := info_parts E.info
  subst hn
  have hpos := E.pos
  have hle : l.length ≤ l.length * bytes := Nat.le_mul_of_pos_right _ E.byt
  have hll : (l.drop k ++ l.take k).length = l.length := by simp; omega
  have hsplit : l.flatMap enc = (l.take k).flatMap enc ++ (l.drop k).flatMap enc := by rw [← List.flatMap_append, List.take_append_drop]
  have htl : ((l.take k).flatMap enc).length = k * size := by rw [flat_len hs0, List.length_take]; congr 1; omega
  have hdl : ((l.drop k).flatMap enc).length = (l.length - k) * size := by rw [flat_len hs0, List.length_drop]
  have hcells : ∀ j u, (l.flatMap enc)[j]? = some u → w.cell? ⟨g, j, none⟩ = some u := fun j u hu => by
    have hj := (List.getElem?_eq_some_iff.1 hu).1
    rw [flat_len hs0] at hj
    rw [hown.cellAt j hj, hu]
  have hnews : ∀ j u, ((l.take k).flatMap enc)[j]? = some u → w.cell? ((⟨g, 0, none⟩ : Addr).add j) = some u := fun j u hu => by
    rw [Addr.add_lit, Nat.zero_add]
    refine hcells j u ?_
    rw [hsplit, List.getElem?_append_left (List.getElem?_eq_some_iff.1 hu).1, hu]
  have holds : ∀ j u, ((l.drop k).flatMap enc)[j]? = some u → w.cell? ((⟨g, k * size, none⟩ : Addr).add j) = some u := fun j u hu => by
    rw [Addr.add_lit]
    refine hcells _ u ?_
    rw [hsplit, List.getElem?_append_right (by omega), htl, Nat.add_sub_cancel_left, hu]
  obtain ⟨_, h0 | ⟨g', cap', cur, e', hbg, hh, hc1, hc2, hsz, htk⟩⟩ := hown
  · omega
  · simp only [Value.slice.injEq, Option.some.injEq, Addr.mk.injEq] at e'
    obtain ⟨⟨rfl, _, _⟩, _, rfl⟩ := e'
    have hgl : g < w.heap.size := (Array.getElem?_eq_some_iff.1 hh).1
    have hmul : k * size + (l.length - k) * size = l.length * size := by rw [← Nat.add_mul]; congr 1; omega
    by_cases hroom : l.length - k + k ≤ cap - k
    · have hroom2 : (l.length + k) * size ≤ cap * size := Nat.mul_le_mul_right _ (by omega)
      rw [Nat.add_mul] at hroom2
      refine step_append_room hg s x t hop e i size E.under hi hsi g (k * size) (l.length - k) (cap - k) hs ⟨g, 0, none⟩ k cap ((l.take k).flatMap enc) hx htl hnews (flat_one h1 _) hroom ?_ ?_
      · intro j hj
        rw [htl] at hj
        constructor
        · simp [World.cell?, hh]; omega
        · simp [World.frozen?, hh]
      · refine hK _ _ ?_ (belowCells g hbg _ _ (Below.refl _ _))
        have hin := World.cell?_setCells_in g ((l.take k).flatMap enc) (k * size + (l.length - k) * size) w (fun j hj => by rw [htl] at hj; simp [World.cell?, hh]; omega)
        have hout := World.cell?_setCells_out g ((l.take k).flatMap enc) (k * size + (l.length - k) * size) w
        have each : ∀ j u, ((l.drop k ++ l.take k).flatMap enc)[j]? = some u → (w.setCells g (k * size + (l.length - k) * size) ((l.take k).flatMap enc)).cell? ⟨g, k * size + j, none⟩ = some u := by
          intro j u hu
          rw [List.flatMap_append] at hu
          by_cases hj : j < (l.length - k) * size
          · rw [List.getElem?_append_left (by omega)] at hu
            rw [hout _ (fun _ _ => by dsimp only; omega)]
            have := holds j u hu
            rwa [Addr.add_lit] at this
          · rw [List.getElem?_append_right (by omega), hdl] at hu
            obtain ⟨hlt, he⟩ := List.getElem?_eq_some_iff.1 hu
            have := hin (j - (l.length - k) * size) hlt
            rw [he, show k * size + (l.length - k) * size + (j - (l.length - k) * size) = k * size + j by omega] at this
            exact this
        refine ⟨_, _, by rw [hll, show l.length - k + k = l.length by omega], by rw [hll]; omega, by unfold maxLen at hc2; omega, by rw [hll]; omega, by simp, .inr ⟨g, k * size, rfl, ?_, CellsAt.of_flat hs0 fun j u hu => each j u hu⟩⟩
        exact Nat.lt_of_lt_of_le hgl (belowCells g (Nat.le_refl g) _ _ (Below.refl g w)).size
    · refine step_append_grows hg s x t hop e i _ size bytes E.under hi hz hsi hby E.zs E.pos (some ⟨g, k * size, none⟩) (l.length - k) (cap - k) ((l.drop k).flatMap enc) hs (by simp) hdl (fun b hb => by cases hb; exact holds) ⟨g, 0, none⟩ k cap ((l.take k).flatMap enc) hx htl hnews (flat_one h1 _) (by omega) (by unfold maxLen; omega) (by rw [show l.length - k + k = l.length by omega]; omega) ?_
      intro v' w' hown' hgr
      rw [← List.flatMap_append, show l.length - k + k = (l.drop k ++ l.take k).length by rw [hll]; omega] at hown'
      refine hK v' w' (Rd.of_owns hs0 hown' (by rw [hll]; omega)) ?_
      exact (Below.refl base w).grown hgr hbase (by simp)
/-- .. as a move of a region. -/
theorem turn_wp {P : Program} {α : Type} {enc : α → List Value} {size bytes : Nat} {t e : TypeId} {z : Value} (E : Elem P t e z size bytes) (hs0 : ∀ x, (enc x).length = size) (h1 : ∀ x, ∀ u ∈ enc x, u.oneCell' = true)
    {o : Oper} {a : Act} {w : World} {K : Act → World → Prop} {Q : Exit → Act → World → Prop} (hg : o.guard = none) (s x : Operand)
    (hop : o.op = Op.call { callee := Callee.builtin Builtin.append, args := #[s, x], argTypes := #[t, t] }) {base g cap k n : Nat} {l : List α} (hn : l.length = n)
    (hown : w.ownsRow base e size (.slice (some ⟨g, 0, none⟩) n cap) n (l.flatMap enc)) (hk : k < n) (hlen : n * bytes ≤ 140737488351232) (hbase : base ≤ w.heap.size)
    (hs : a.eval s = .slice (some ⟨g, k * size, none⟩) (n - k) (cap - k)) (hx : a.eval x = .slice (some ⟨g, 0, none⟩) k cap)
    (hK : ∀ v' w', Rd enc size w' v' (l.drop k ++ l.take k) → Below base w w' → K (a.put o.dst v') w') : Oper.wp P o a w K Q := by
  have h := step_turn (ops := #[o]) (D := False) E hs0 h1 hg s x hop hn hown hk hlen hbase hs hx hK (Q := Q)
  rwa [if_pos (by simp [Region.wanted, hg])] at h
end Go.Proofs.Ytmflnbdajaiahaa
