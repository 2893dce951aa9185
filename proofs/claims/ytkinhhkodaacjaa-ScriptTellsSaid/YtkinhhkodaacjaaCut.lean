/- Parts of a slice as values: x[:k], x[k:], x[a:b], whatever its capacity; an append of any readable source in a drawn region. (Text of no seat: Ytkinhhkodaacjaa stands for the seat's name.) -/
import Derived.Test.YtkinhhkodaacjaaReg2
import Derived.Test.YtkinhhkodaacjaaRd
namespace Go.Proofs.Ytkinhhkodaacjaa
open Go.RowKit

section
variable {α : Type} {enc : α → List Value} {size : Nat} {P : Program} {t : TypeId}
/-- A part of what reads reads. -/
theorem Rd.part {w : World} {a : Option Addr} {n cap : Nat} {l : List α} (h : Rd enc size w (.slice a n cap) l) (i k : Nat) (hik : i ≤ k) (hk : k ≤ l.length) : Rd enc size w (sliced a i k cap size) ((l.take k).drop i) := by
  obtain ⟨a', cap', e, h1, h2, h3, h5, h4⟩ := h
  simp only [Value.slice.injEq] at e
  obtain ⟨rfl, rfl, rfl⟩ := e
  have hlen : ((l.take k).drop i).length = k - i := by simp; omega
  refine ⟨if cap = i then a else a.map (·.add (i * size)), cap - i, ?_, ?_, by omega, by omega, ?_, ?_⟩
  · unfold sliced; rw [hlen]
  · rw [hlen]; omega
  · intro hn
    split at hn
    · have := h5 hn; omega
    · cases a with
      | none => have := h5 rfl; omega
      | some ad => simp at hn
  · by_cases hz : k = i
    · exact .inl (List.eq_nil_of_length_eq_zero (by rw [hlen]; omega))
    · have hne : l ≠ [] := by rintro rfl; simp at hk; omega
      obtain ⟨b, off, rfl, hlt, hc⟩ := h4.resolve_left hne
      refine .inr ⟨b, off + i * size, ?_, hlt, (hc.take k).drop i⟩
      rw [if_neg (by omega), Option.map_some, Addr.add_lit]
theorem run_slice_from {w : World} {v : Value} {l : List α} (ht : P.underlying t = some (.slice (P.elem t))) (hs : ∀ W, (sizeOf (P.elem t)).run P W = .ok size W) (h : Rd enc size w v l) {k : Nat} (hk : k ≤ l.length) (kk : IntKind) :
    ∃ v2, (∀ W, (Instr.sliceAt t v (some (.int kk (k : Int))) none none).run P W = .ok v2 W) ∧ ∀ W, Rd enc size W v l → Rd enc size W v2 (l.drop k) := by
  obtain ⟨a, cap, rfl, h1, h2, h3⟩ := h.shape
  refine ⟨sliced a k l.length cap size, fun W => ?_, fun W h => by have := h.part k l.length hk (Nat.le_refl _); rwa [List.take_length] at this⟩
  rw [run_sliceAt_slice (P := P) (w := W) t _ _ _ _ ht, run_slice_l (P := P) (w := W) t a l.length cap ht kk k (by omega) (by omega), hs]
  rfl
theorem run_slice_upto {w : World} {v : Value} {l : List α} (ht : P.underlying t = some (.slice (P.elem t))) (hs : ∀ W, (sizeOf (P.elem t)).run P W = .ok size W) (h : Rd enc size w v l) {k : Nat} (hk : k ≤ l.length) (kk : IntKind) :
    ∃ v2, (∀ W, (Instr.sliceAt t v none (some (.int kk (k : Int))) none).run P W = .ok v2 W) ∧ ∀ W, Rd enc size W v l → Rd enc size W v2 (l.take k) := by
  obtain ⟨a, cap, rfl, h1, h2, h3⟩ := h.shape
  refine ⟨sliced a 0 k cap size, fun W => ?_, fun W h => by have := h.part 0 k (by omega) hk; rwa [List.drop_zero] at this⟩
  rw [run_sliceAt_slice (P := P) (w := W) t _ _ _ _ ht, run_slice_h (P := P) (w := W) t a l.length cap ht kk k (by omega) (by omega), hs]
  rfl
theorem run_slice_mid {w : World} {v : Value} {l : List α} (ht : P.underlying t = some (.slice (P.elem t))) (hs : ∀ W, (sizeOf (P.elem t)).run P W = .ok size W) (h : Rd enc size w v l) {i k : Nat} (hik : i ≤ k) (hk : k ≤ l.length) (ki kk : IntKind) :
    ∃ v2, (∀ W, (Instr.sliceAt t v (some (.int ki (i : Int))) (some (.int kk (k : Int))) none).run P W = .ok v2 W) ∧ ∀ W, Rd enc size W v l → Rd enc size W v2 ((l.take k).drop i) := by
  obtain ⟨a, cap, rfl, h1, h2, h3⟩ := h.shape
  refine ⟨sliced a i k cap size, fun W => ?_, fun W h => h.part i k hik hk⟩
  rw [run_sliceAt_slice (P := P) (w := W) t _ _ _ _ ht, run_slice_lh (P := P) (w := W) t a l.length cap ht ki kk i k (by omega) (by omega) (by omega), hs]
  rfl
theorem exec_slice {w : World} {o : Oper} {ac : Act} {x : Operand} {lo hi : Option Operand} {v v2 : Value} {l h : Option Value} (ho : o.op = .slice t x lo hi none) (hx : ac.eval x = v) (hl : lo.map ac.eval = l) (hh : hi.map ac.eval = h)
    (hr : (Instr.sliceAt t v l h none).run P w = .ok v2 w) : (execOp ac.eval o).run P w = .ok (.value v2) w := by
  simp [execOp, ho, hx, hl, hh, hr, Result.andThen]
end

section
variable {P : Program} {l : List Oper} {Q : Exit → Act → World → Prop} {md : Region.Mode} {S : World → Prop}
theorem exec_appS {w : World} {o : Oper} {ac : Act} {t e : TypeId} {z : Value} {size bytes base : Nat} (E : Elem P t e z size bytes) {s x : Operand} (ho : o.op = .call { callee := .builtin .append, args := #[s, x], argTypes := #[t, t] })
    {v xv : Value} {n m : Nat} {xs news : List Value} (hown : w.ownsRow base e size v n xs) (hsrc : Src w xv m news size) (hs : ac.eval s = v) (hx : ac.eval x = xv) (hby : (n + m) * bytes ≤ 140737488355328) (hbase : base ≤ w.heap.size) :
    ∃ v' w', (execOp ac.eval o).run P w = .ok (.value v') w' ∧ w'.ownsRow base e size v' (n + m) (xs ++ news) ∧ w.grownBy w' v.ownBlock := by
  obtain ⟨v', w', hr, h2, h3, h4⟩ := run_app (ty := o.type) E hown hsrc hby hbase
  refine ⟨v', w', ?_, h2, h3⟩
  unfold execOp
  simp only [ho, resolve, invoke, builtin, Sem.run_bind, Sem.run_pure, Result.andThen_ok, List.map_toArray, List.map_cons, List.map_nil, hs, hx, hr]
/-- An append of whatever reads. -/
theorem takeAppS {i : Nat} {oi : Oper} {r : List Oper} {fuel : Nat} {listed : Array Bool} {a : Act} {w : World} {t e : TypeId} {z : Value} {size bytes base : Nat} (E : Elem P t e z size bytes) (hi : l.drop i = oi :: r)
    (hr : Region.ready md l.toArray listed = [i]) (hw : Region.wanted oi (yielded l.toArray a.tmps) = true) {s x : Operand} (ho : oi.op = .call { callee := .builtin .append, args := #[s, x], argTypes := #[t, t] })
    {v xv : Value} {n m : Nat} {xs news : List Value} (hown : w.ownsRow base e size v n xs) (hsrc : Src w xv m news size) (hs : a.eval s = v) (hx : a.eval x = xv) (hby : (n + m) * bytes ≤ 140737488355328) (hbase : base ≤ w.heap.size)
    (h : ∀ v' w', w'.ownsRow base e size v' (n + m) (xs ++ news) → w.grownBy w' v.ownBlock → S w' ∧ wpAnyH P md l.toArray Q S fuel (listed.setIfInBounds i true) (a.put oi.dst v') w') :
    wpAnyH P md l.toArray Q S (fuel + 1) listed a w := by
  obtain ⟨v', w', hrun, q1, q2⟩ := exec_appS (P := P) (w := w) (o := oi) (ac := a) E ho hown hsrc hs hx hby hbase
  obtain ⟨g1, g2⟩ := h v' w' q1 q2
  exact takeV hi hr hw hrun g1 g2
end
end Go.Proofs.Ytkinhhkodaacjaa
