/- Contract: the plain list of four nodes. -/
import Derived.Test.YtkinhhkodaacjaaGreatDoorQ1
import Derived.Test.YtkinhhkodaacjaaGreatDoorM8
import Derived.Maps.AppendAt
namespace Go.Proofs.YtkinhhkodaacjaaGreatDoor
open Go.RowKit Go.Shelf
open Md

theorem E4 : Elem Tryz.prog 22 4 (.bool false) 1 1 := ⟨Tryz.underlying22, by kernel_rfl, rfl, by decide, by decide⟩
theorem E3 : Elem Tryz.prog 23 3 (.int .i64 0) 1 8 := ⟨Tryz.underlying23, by kernel_rfl, rfl, by decide, by decide⟩
/-- 'append(xs, x)', and where the new row lies. -/
theorem wpList_app1_at {P : Program} {w : World} {ops : Array Oper} {rest : List Oper} {o : Oper} {a : Act} {Q : Exit → Act → World → Prop} {base : Nat} {t e te : TypeId} {z : Value} {size bytes : Nat} (E : Elem P t e z size bytes)
    (hgd : o.guard = none) (s x : Operand) (ho : o.op = .call { callee := .builtin .append, args := #[s, x], argTypes := #[t, t] })
    {v : Value} {n : Nat} {xs : List Value} (hown : w.ownsRow base e size v n xs) (cs : List Value) (hcs : cs.length = size) (h1 : ∀ u ∈ cs, u.oneCell' = true)
    (hs : a.eval s = v) (hx : a.eval x = .slice (some ⟨w.heap.size, 0, none⟩) 1 1) (hby : (n + 1) * bytes ≤ 140737488355328) (hbase : base ≤ w.heap.size)
    (h : ∀ v' w', w'.ownsRow base e size v' (n + 1) (xs ++ cs) → w.grownBy w' v.ownBlock → (v'.ownBlock = v.ownBlock ∨ v'.ownBlock = some (w.heap.size + 1)) → wpList P ops Q rest (a.put o.dst v') w') : wpList P ops Q (o :: rest) a (w.alloc (.cells cs.toArray te)) := by
  refine wpList_plain hgd fun _ hK => ?_
  obtain ⟨i, hi, hz, hsz, hb⟩ := info_parts E.info
  have hmax : n + 1 ≤ maxLen := by
    have : n + 1 ≤ (n + 1) * bytes := Nat.le_mul_of_pos_right _ E.byt
    unfold maxLen; omega
  obtain ⟨v', w', hr, h2, h3, _, h4⟩ := run_append_own_at (P := P) (w.alloc (.cells cs.toArray te)) base t o.type e i z size bytes E.under hi hz hsz hb E.zs E.pos v n xs (hown.alloc _) ⟨w.heap.size, 0, none⟩ 1 1 cs (by omega) (fun j u hu => by
    rw [Addr.add_lit, World.cell?_alloc_at _ _ _ _ rfl]
    simpa using hu) h1 hmax hby (by simp; omega)
  unfold Oper.wp execOp
  simp only [ho, resolve, invoke, builtin, Sem.run_bind, Sem.run_pure, Result.andThen_ok, List.map_toArray, List.map_cons, List.map_nil, hs, hx, hr]
  refine hK _ _ (h v' w' h2 ⟨h3.os, h3.tape, h3.output, by have := h3.size; simp at this; omega, fun k hk hne => (h3.block k (by simp; omega) hne).trans (Below.heap_alloc _ _ _ hk)⟩ (by simpa using h4))

/-- Two slices of the call's own do not lie in one block. -/
def Ap (a b : Value) : Prop := ∀ g, a.ownBlock = some g → b.ownBlock ≠ some g
theorem Ap.symm {a b : Value} (h : Ap a b) : Ap b a := fun g h1 h2 => h g h2 h1
theorem keptLow {w w1 : World} {b : Nat} {t : TypeId} {cs : Array Value} (h : Blk w b t cs) {base : Nat} {e : TypeId} {size : Nat} {v : Value} {n : Nat} {xs : List Value} (hg : w.grownBy w1 v.ownBlock) (ho : w.ownsRow base e size v n xs) (hb : b < base) : Blk w1 b t cs :=
  h.kept hg (fun e' => ownsRow_ne ho hb e'.symm)
theorem keptOwn {w w1 : World} {base' : Nat} {e' : TypeId} {size' : Nat} {v u : Value} {n' : Nat} {ys : List Value} (hg : w.grownBy w1 v.ownBlock) (hu : w.ownsRow base' e' size' u n' ys) (hap : Ap v u) : w1.ownsRow base' e' size' u n' ys := by
  refine hu.kept hg ?_
  cases h : u.ownBlock with
  | none => exact .inl rfl
  | some g => exact .inr fun h' => hap g h'.symm h
theorem apNew {w : World} {base' : Nat} {e' : TypeId} {size' : Nat} {v v' u : Value} {n' : Nat} {ys : List Value} (hat : v'.ownBlock = v.ownBlock ∨ v'.ownBlock = some (w.heap.size + 1)) (hu : w.ownsRow base' e' size' u n' ys) (hap : Ap v u) : Ap v' u := by
  intro g hg hu'
  rcases hat with h | h
  · exact hap g (h ▸ hg) hu'
  · rw [h] at hg
    have := (hu.lt g hu').2
    simp only [Option.some.injEq] at hg
    omega
theorem keptSet {w : World} {base : Nat} {e : TypeId} {size : Nat} {v : Value} {n : Nat} {xs : List Value} (h : w.ownsRow base e size v n xs) {b i : Nat} (hb : b < base) (x : Value) : (w.setCell ⟨b, i, none⟩ x).ownsRow base e size v n xs :=
  h.kept (grownBy_setCell w ⟨b, i, none⟩ x) (.inr (ownsRow_ne h hb))

/-- Behind some appends. -/
def PQ (w : World) (kC kD kE : Nat) (vC vD vE : Value) (W : World) : Prop :=
  Blk W w.heap.size 38 #[.int .i64 0, .int .i64 0, .int .i64 0, .int .i64 0, .int .i64 0, .int .i64 0, .slice none 0 0, .slice none 0 0] ∧ Blk W (w.heap.size + 1) 38 #[.int .i64 4, .int .i64 0, .int .i64 0, .int .i64 0, .int .i64 0, .int .i64 1, vC, .slice none 0 0] ∧ Blk W (w.heap.size + 1 + 1) 4 #[.bool true] ∧ Blk W (w.heap.size + 1 + 1 + 1) 86 #[vD, vE, .slice (some ⟨w.heap.size + 1 + 1, 0, none⟩) 1 1] ∧ Below w.heap.size w W ∧
    W.ownsRow (w.heap.size + 4) 4 1 vC kC (List.replicate kC (.bool true)) ∧ W.ownsRow (w.heap.size + 4) 3 1 vD kD (List.replicate kD (.int .i64 2)) ∧ W.ownsRow (w.heap.size + 4) 4 1 vE kE (List.replicate kE (.bool true)) ∧ Ap vC vD ∧ Ap vC vE ∧ Ap vD vE
def PR (w : World) (k : Nat) (W : World) : Prop := ∃ vC vD vE, PQ w k k k vC vD vE W
theorem PQ.appC {w W w1 : World} {kC kD kE : Nat} {vC vD vE v' : Value} (h : PQ w kC kD kE vC vD vE W) (hg : W.grownBy w1 vC.ownBlock) (ho : w1.ownsRow (w.heap.size + 4) 4 1 v' (kC + 1) (List.replicate (kC + 1) (.bool true)))
    (hat : v'.ownBlock = vC.ownBlock ∨ v'.ownBlock = some (W.heap.size + 1)) : PQ w (kC + 1) kD kE v' vD vE (w1.setCell ⟨w.heap.size + 1, 6, none⟩ v') := by
  have hlt := h.2.2.2.1.lt
  refine ⟨?_, ?_, ?_, ?_, ?_, ?_, ?_, ?_, ?_, ?_, ?_⟩
  · exact (keptLow h.1 hg h.2.2.2.2.2.1 (by omega)).far (by simp <;> omega) _
  · simpa using (keptLow h.2.1 hg h.2.2.2.2.2.1 (by omega)).set 6 v'
  · exact (keptLow h.2.2.1 hg h.2.2.2.2.2.1 (by omega)).far (by simp <;> omega) _
  · exact (keptLow h.2.2.2.1 hg h.2.2.2.2.2.1 (by omega)).far (by simp <;> omega) _
  · exact (h.2.2.2.2.1.grown hg h.2.2.2.2.1.size (fun g e => by
      rcases Nat.lt_or_ge g (w.heap.size + 4) with h' | h'
      · exact absurd e (ownsRow_ne h.2.2.2.2.2.1 h')
      · omega)).setCell (by simp <;> omega) _
  · exact keptSet ho (by omega) _
  · exact keptSet (keptOwn hg h.2.2.2.2.2.2.1 h.2.2.2.2.2.2.2.2.1) (by omega) _
  · exact keptSet (keptOwn hg h.2.2.2.2.2.2.2.1 h.2.2.2.2.2.2.2.2.2.1) (by omega) _
  · exact apNew hat h.2.2.2.2.2.2.1 h.2.2.2.2.2.2.2.2.1
  · exact apNew hat h.2.2.2.2.2.2.2.1 h.2.2.2.2.2.2.2.2.2.1
  · exact h.2.2.2.2.2.2.2.2.2.2
theorem PQ.appD {w W w1 : World} {kC kD kE : Nat} {vC vD vE v' : Value} (h : PQ w kC kD kE vC vD vE W) (hg : W.grownBy w1 vD.ownBlock) (ho : w1.ownsRow (w.heap.size + 4) 3 1 v' (kD + 1) (List.replicate (kD + 1) (.int .i64 2)))
    (hat : v'.ownBlock = vD.ownBlock ∨ v'.ownBlock = some (W.heap.size + 1)) : PQ w kC (kD + 1) kE vC v' vE (w1.setCell ⟨w.heap.size + 1 + 1 + 1, 0, none⟩ v') := by
  have hlt := h.2.2.2.1.lt
  refine ⟨?_, ?_, ?_, ?_, ?_, ?_, ?_, ?_, ?_, ?_, ?_⟩
  · exact (keptLow h.1 hg h.2.2.2.2.2.2.1 (by omega)).far (by simp <;> omega) _
  · exact (keptLow h.2.1 hg h.2.2.2.2.2.2.1 (by omega)).far (by simp <;> omega) _
  · exact (keptLow h.2.2.1 hg h.2.2.2.2.2.2.1 (by omega)).far (by simp <;> omega) _
  · simpa using (keptLow h.2.2.2.1 hg h.2.2.2.2.2.2.1 (by omega)).set 0 v'
  · exact (h.2.2.2.2.1.grown hg h.2.2.2.2.1.size (fun g e => by
      rcases Nat.lt_or_ge g (w.heap.size + 4) with h' | h'
      · exact absurd e (ownsRow_ne h.2.2.2.2.2.2.1 h')
      · omega)).setCell (by simp <;> omega) _
  · exact keptSet (keptOwn hg h.2.2.2.2.2.1 (h.2.2.2.2.2.2.2.2.1).symm) (by omega) _
  · exact keptSet ho (by omega) _
  · exact keptSet (keptOwn hg h.2.2.2.2.2.2.2.1 h.2.2.2.2.2.2.2.2.2.2) (by omega) _
  · exact (apNew hat h.2.2.2.2.2.1 (h.2.2.2.2.2.2.2.2.1).symm).symm
  · exact h.2.2.2.2.2.2.2.2.2.1
  · exact apNew hat h.2.2.2.2.2.2.2.1 h.2.2.2.2.2.2.2.2.2.2
theorem PQ.appE {w W w1 : World} {kC kD kE : Nat} {vC vD vE v' : Value} (h : PQ w kC kD kE vC vD vE W) (hg : W.grownBy w1 vE.ownBlock) (ho : w1.ownsRow (w.heap.size + 4) 4 1 v' (kE + 1) (List.replicate (kE + 1) (.bool true)))
    (hat : v'.ownBlock = vE.ownBlock ∨ v'.ownBlock = some (W.heap.size + 1)) : PQ w kC kD (kE + 1) vC vD v' (w1.setCell ⟨w.heap.size + 1 + 1 + 1, 1, none⟩ v') := by
  have hlt := h.2.2.2.1.lt
  refine ⟨?_, ?_, ?_, ?_, ?_, ?_, ?_, ?_, ?_, ?_, ?_⟩
  · exact (keptLow h.1 hg h.2.2.2.2.2.2.2.1 (by omega)).far (by simp <;> omega) _
  · exact (keptLow h.2.1 hg h.2.2.2.2.2.2.2.1 (by omega)).far (by simp <;> omega) _
  · exact (keptLow h.2.2.1 hg h.2.2.2.2.2.2.2.1 (by omega)).far (by simp <;> omega) _
  · simpa using (keptLow h.2.2.2.1 hg h.2.2.2.2.2.2.2.1 (by omega)).set 1 v'
  · exact (h.2.2.2.2.1.grown hg h.2.2.2.2.1.size (fun g e => by
      rcases Nat.lt_or_ge g (w.heap.size + 4) with h' | h'
      · exact absurd e (ownsRow_ne h.2.2.2.2.2.2.2.1 h')
      · omega)).setCell (by simp <;> omega) _
  · exact keptSet (keptOwn hg h.2.2.2.2.2.1 (h.2.2.2.2.2.2.2.2.2.1).symm) (by omega) _
  · exact keptSet (keptOwn hg h.2.2.2.2.2.2.1 (h.2.2.2.2.2.2.2.2.2.2).symm) (by omega) _
  · exact keptSet ho (by omega) _
  · exact h.2.2.2.2.2.2.2.2.1
  · exact (apNew hat h.2.2.2.2.2.1 (h.2.2.2.2.2.2.2.2.2.1).symm).symm
  · exact (apNew hat h.2.2.2.2.2.2.1 (h.2.2.2.2.2.2.2.2.2.2).symm).symm

def PlainM (m : Me) : Prop := okM m = true ∧ m.nodes = 4 ∧ m.slot = 138 ∧ m.gap = 38 ∧ m.win = 16 ∧ m.drift = 0 ∧ m.delay = 1
/-- What lies beside the list. -/
def PL (w : World) (bm : Nat) (aC : Option Addr) (cC : Nat) (aD : Option Addr) (cD : Nat) (aE : Option Addr) (cE : Nat) (W : World) : Prop :=
  W.ownsRow (w.heap.size + 4) 4 1 (.slice aC 4 cC) 4 (List.replicate 4 (.bool true)) ∧ W.ownsRow (w.heap.size + 4) 3 1 (.slice aD 4 cD) 4 (List.replicate 4 (.int .i64 2)) ∧ W.ownsRow (w.heap.size + 4) 4 1 (.slice aE 4 cE) 4 (List.replicate 4 (.bool true)) ∧
  Blk W (w.heap.size + 1 + 1) 4 #[.bool true] ∧ Blk W bm 86 #[.slice aD 4 cD, .slice aE 4 cE, .slice (some ⟨w.heap.size + 1 + 1, 0, none⟩) 1 1] ∧ Below w.heap.size w W ∧ w.heap.size + 1 < bm
section
variable {w W W' : World} {bm : Nat} {aC : Option Addr} {cC : Nat} {aD : Option Addr} {cD : Nat} {aE : Option Addr} {cE : Nat}
theorem PL.set (h : PL w bm aC cC aD cD aE cE W) (b i : Nat) (x : Value) (hb0 : w.heap.size ≤ b) (hb1 : b ≤ w.heap.size + 1) : PL w bm aC cC aD cD aE cE (W.setCell ⟨b, i, none⟩ x) :=
  ⟨keptSet h.1 (by omega) _, keptSet h.2.1 (by omega) _, keptSet h.2.2.1 (by omega) _, h.2.2.2.1.far (by simp; omega) _, h.2.2.2.2.1.far (by have := h.2.2.2.2.2.2; simp; omega) _, h.2.2.2.2.2.1.setCell (by simpa using hb0) _, h.2.2.2.2.2.2⟩
theorem PL.keep (h : PL w bm aC cC aD cD aE cE W) (hb : Below W.heap.size W W') : PL w bm aC cC aD cD aE cE W' :=
  ⟨ow_below h.1 hb, ow_below h.2.1 hb, ow_below h.2.2.1 hb, h.2.2.2.1.keep hb, h.2.2.2.2.1.keep hb, h.2.2.2.2.2.1.trans (hb.mono h.2.2.2.2.2.1.size), h.2.2.2.2.2.2⟩
theorem PL.good (h : PL w bm aC cC aD cD aE cE W) (slot gap win : Int) (h1 : I64 slot) (h2 : I64 gap) (h3 : I64 win) :
    GoodMe W ⟨4, slot, gap, win, 0, 1, ⟨aC, cC, [true, true, true, true]⟩, some ⟨bm, 0, none⟩, 1, [⟨⟨aD, cD, [2, 2, 2, 2]⟩, ⟨aE, cE, [true, true, true, true]⟩, ⟨some ⟨w.heap.size + 1 + 1, 0, none⟩, 1, [true]⟩⟩]⟩ := by
  obtain ⟨hC, hD, hE, hN, hM, _, _⟩ := h
  refine ⟨⟨Rd.of_owns (enc := encB) (size := 1) (fun _ => rfl) hC (by simp), ⟨_, _, rfl, by simp, by simp, by simp, by simp, .inr ⟨bm, 0, rfl, hM.lt, ?_⟩⟩, ?_⟩, (show I64 4 by unfold I64; omega), h1, h2, h3, (show I64 0 by unfold I64; omega), (show I64 1 by unfold I64; omega)⟩
  · intro j x hj i u hu
    match j, hj with
    | 0, hj =>
      simp at hj
      subst hj
      have := hM.cell i
      rw [show 0 + 0 * 3 + i = i by omega, this]
      simpa [encMo] using hu
    | j + 1, hj => simp at hj
  · intro x hx
    obtain rfl := List.mem_singleton.1 hx
    refine ⟨⟨Rd.of_owns (enc := encI .i64) (size := 1) (fun _ => rfl) hD (by simp), fun x hx => ?_⟩, Rd.of_owns (enc := encB) (size := 1) (fun _ => rfl) hE (by simp), ⟨_, _, rfl, by simp, by simp, by simp, by simp, .inr ⟨w.heap.size + 1 + 1, 0, rfl, hN.lt, ?_⟩⟩⟩
    · have : x = 2 := by simpa using hx
      subst this; unfold I64; omega
    · intro j x hj i u hu
      match j, hj with
      | 0, hj =>
        simp at hj
        subst hj
        have := hN.cell i
        rw [show 0 + 0 * 1 + i = i by omega, this]
        simpa [encB] using hu
      | j + 1, hj => simp at hj
end

set_option maxRecDepth 100000 in
set_option maxHeartbeats 12800000 in
theorem plain_any (w : World) : Calls Tryz.prog 12 #[.int .i64 4, .int .i64 0] w fun e w' => (∃ m : Me, e = .returned (.tuple #[mev m, .int .i64 0]) ∧ GoodMe w' m ∧ PlainM m) ∧ Below w.heap.size w w' := by
  go_enter Tryz.func12, Tryz.ntmps12
  go_wp2_with fail
  have h0 : PR w 0 ((((w.alloc (.cells #[.int .i64 0, .int .i64 0, .int .i64 0, .int .i64 0, .int .i64 0, .int .i64 0, .slice none 0 0, .slice none 0 0] 38)).alloc (.cells #[.int .i64 4, .int .i64 0, .int .i64 0, .int .i64 0, .int .i64 0, .int .i64 1, .slice none 0 0, .slice none 0 0] 38)).alloc (.cells #[.bool true] 4)).alloc (.cells #[.slice none 0 0, .slice none 0 0, .slice (some ⟨w.heap.size + 1 + 1, 0, none⟩) 1 1] 86)) :=
    ⟨.slice none 0 0, .slice none 0 0, .slice none 0 0, (((Blk.new' rfl).alloc _).alloc _).alloc _, ((Blk.new' (by simp)).alloc _).alloc _, (Blk.new' (by simp)).alloc _, Blk.new' (by simp), (below3 w _ _ _).alloc (by simp; omega) _,
      World.ownsRow_nil _ _ _ _, World.ownsRow_nil _ _ _ _, World.ownsRow_nil _ _ _ _, fun g h => by simp [Value.ownBlock] at h, fun g h => by simp [Value.ownBlock] at h, fun g h => by simp [Value.ownBlock] at h⟩
  generalize (((w.alloc (.cells #[.int .i64 0, .int .i64 0, .int .i64 0, .int .i64 0, .int .i64 0, .int .i64 0, .slice none 0 0, .slice none 0 0] 38)).alloc (.cells #[.int .i64 4, .int .i64 0, .int .i64 0, .int .i64 0, .int .i64 0, .int .i64 1, .slice none 0 0, .slice none 0 0] 38)).alloc (.cells #[.bool true] 4)).alloc (.cells #[.slice none 0 0, .slice none 0 0, .slice (some ⟨w.heap.size + 1 + 1, 0, none⟩) 1 1] 86) = W0 at *
  go_loopw [8] (fun i wr => ∃ k : Nat, k ≤ 4 ∧ i = .int .i64 k ∧ Hid (PR w k wr)) (fun i _ => 4 - (intOf i).toNat)
  case atStart => exact ⟨0, Nat.zero_le _, rfl, h0⟩
  case round =>
    obtain ⟨k, hk, rfl, HP⟩ := hrel
    by_cases hlt : k < 4
    · obtain ⟨vC, vD, vE, hP⟩ := HP.out
      clear HP
      have HP := Lib.hid hP
      clear hP
      obtain ⟨hp0, hp1, hp2, hp3, hp4, hp5, hp6, hp7, hp8, hp9, hp10⟩ := HP.out
      obtain ⟨aC, cC, rfl, _⟩ := owns_shape hp5
      obtain ⟨aD, cD, rfl, _⟩ := owns_shape hp6
      obtain ⟨aE, cE, rfl, _⟩ := owns_shape hp7
      have HO := Lib.hid hp5
      have H6 := Lib.hid hp1
      have H7 := Lib.hid hp3
      obtain ⟨x0, x1, x2, x3, x4, x5, x6, x7⟩ := hp1.eight
      obtain ⟨y0, y1, y2⟩ := hp3.three
      have hs4 : w.heap.size + 4 ≤ wr.heap.size := by have := hp3.lt; omega
      clear hp0 hp1 hp2 hp3 hp4 hp5 hp6 hp7 hp8 hp9 hp10
      go_upto_region 9 with (at_builtin; refine wpList_app1_at E4 rfl (.tmp 35) (.tmp 36) rfl HO.out [.bool true] rfl (by simp [Value.oneCell']) rfl rfl (by omega) (by omega) ?_; intro v' w1 ho hg hat; obtain ⟨oa', oc', rfl, _⟩ := owns_shape ho; have HQ := Lib.hid (PQ.appC HP.out hg (by rw [List.replicate_succ']; exact ho) hat); have K6 := Lib.hid (keptLow H6.out hg HO.out (by omega)); have K7 := Lib.hid (keptLow H7.out hg HO.out (by omega)); clear ho hg hat x0 x1 x2 x3 x4 x5 x6 x7 y0 y1 y2; obtain ⟨x0, x1, x2, x3, x4, x5, x6, x7⟩ := K6.out.eight; obtain ⟨y0, y1, y2⟩ := K7.out.three; have fr := K6.out.frozen 6)
      clear x0 x1 x2 x3 x4 x5 x6 x7 y0 y1 y2 fr K6 K7 H6 H7 HO HP hs4
      have HP := HQ
      clear HQ
      generalize w1.setCell ⟨w.heap.size + 1, 6, none⟩ (.slice oa' (k + 1) oc') = wr at *
      obtain ⟨hp0, hp1, hp2, hp3, hp4, hp5, hp6, hp7, hp8, hp9, hp10⟩ := HP.out
      have HO := Lib.hid hp6
      have H6 := Lib.hid hp1
      have H7 := Lib.hid hp3
      obtain ⟨x0, x1, x2, x3, x4, x5, x6, x7⟩ := hp1.eight
      obtain ⟨y0, y1, y2⟩ := hp3.three
      have hs4 : w.heap.size + 4 ≤ wr.heap.size := by have := hp3.lt; omega
      clear hp0 hp1 hp2 hp3 hp4 hp5 hp6 hp7 hp8 hp9 hp10
      go_upto_region 10 with (at_builtin; refine wpList_app1_at E3 rfl (.tmp 40) (.tmp 41) rfl HO.out [.int .i64 2] rfl (by simp [Value.oneCell']) rfl rfl (by omega) (by omega) ?_; intro v' w1 ho hg hat; obtain ⟨oa', oc', rfl, _⟩ := owns_shape ho; have HQ := Lib.hid (PQ.appD HP.out hg (by rw [List.replicate_succ']; exact ho) hat); have K6 := Lib.hid (keptLow H6.out hg HO.out (by omega)); have K7 := Lib.hid (keptLow H7.out hg HO.out (by omega)); clear ho hg hat x0 x1 x2 x3 x4 x5 x6 x7 y0 y1 y2; obtain ⟨x0, x1, x2, x3, x4, x5, x6, x7⟩ := K6.out.eight; obtain ⟨y0, y1, y2⟩ := K7.out.three; have fr := K7.out.frozen 0)
      clear x0 x1 x2 x3 x4 x5 x6 x7 y0 y1 y2 fr K6 K7 H6 H7 HO HP hs4
      have HP := HQ
      clear HQ
      generalize w1.setCell ⟨w.heap.size + 1 + 1 + 1, 0, none⟩ (.slice oa' (k + 1) oc') = wr at *
      obtain ⟨hp0, hp1, hp2, hp3, hp4, hp5, hp6, hp7, hp8, hp9, hp10⟩ := HP.out
      have HO := Lib.hid hp7
      have H6 := Lib.hid hp1
      have H7 := Lib.hid hp3
      obtain ⟨x0, x1, x2, x3, x4, x5, x6, x7⟩ := hp1.eight
      obtain ⟨y0, y1, y2⟩ := hp3.three
      have hs4 : w.heap.size + 4 ≤ wr.heap.size := by have := hp3.lt; omega
      clear hp0 hp1 hp2 hp3 hp4 hp5 hp6 hp7 hp8 hp9 hp10
      go_upto_region 7 with (at_builtin; refine wpList_app1_at E4 rfl (.tmp 45) (.tmp 46) rfl HO.out [.bool true] rfl (by simp [Value.oneCell']) rfl rfl (by omega) (by omega) ?_; intro v' w1 ho hg hat; obtain ⟨oa', oc', rfl, _⟩ := owns_shape ho; have HQ := Lib.hid (PQ.appE HP.out hg (by rw [List.replicate_succ']; exact ho) hat); have K6 := Lib.hid (keptLow H6.out hg HO.out (by omega)); have K7 := Lib.hid (keptLow H7.out hg HO.out (by omega)); clear ho hg hat x0 x1 x2 x3 x4 x5 x6 x7 y0 y1 y2; obtain ⟨x0, x1, x2, x3, x4, x5, x6, x7⟩ := K6.out.eight; obtain ⟨y0, y1, y2⟩ := K7.out.three; have fr := K7.out.frozen 1)
      clear x0 x1 x2 x3 x4 x5 x6 x7 y0 y1 y2 fr K6 K7 H6 H7 HO HP hs4
      have HP := HQ
      clear HQ
      generalize w1.setCell ⟨w.heap.size + 1 + 1 + 1, 1, none⟩ (.slice oa' (k + 1) oc') = wr at *
      go_wp2_with fail
      go_roundw
      case rel => exact ⟨k + 1, by omega, by go_num, _, _, _, HP.out⟩
      case measure => simp [intOf]; omega
    · obtain rfl : k = 4 := by omega
      obtain ⟨vC, vD, vE, h1, h2, h3, h4, h5, h6, h7, h8, _⟩ := HP.out
      obtain ⟨aC, cC, rfl, _⟩ := owns_shape h6
      obtain ⟨aD, cD, rfl, _⟩ := owns_shape h7
      obtain ⟨aE, cE, rfl, _⟩ := owns_shape h8
      have H1 := Lib.hid h1
      have H2 := Lib.hid h2
      have H3 := Lib.hid h3
      have H4 := Lib.hid h4
      have H5 := Lib.hid h5
      have H6 := Lib.hid h6
      have H7 := Lib.hid h7
      have H8 := Lib.hid h8
      have hlt4 := h4.lt
      have hlt2 : w.heap.size + 1 < wr.heap.size := h2.lt
      obtain ⟨x0, x1, x2, x3, x4, x5, x6, x7⟩ := h2.eight
      obtain ⟨y0, y1, y2⟩ := h4.three
      have f7 := h2.frozen 7
      clear h1 h2 h3 h4 h5 h6 h7 h8 HP hlt
      go_upto_region 12 with fail
      -- what reads: the mode, and the list
      have HLM : Hid (Blk ((wr.setCell ⟨w.heap.size + 1, 7, none⟩ (.slice (some ⟨wr.heap.size, 0, none⟩) 1 1)).alloc (.cells #[.slice aD 4 cD, .slice aE 4 cE, .slice (some ⟨w.heap.size + 1 + 1, 0, none⟩) 1 1] 86)) (w.heap.size + 1) 38 #[.int .i64 4, .int .i64 0, .int .i64 0, .int .i64 0, .int .i64 0, .int .i64 1, .slice aC 4 cC, .slice (some ⟨wr.heap.size, 0, none⟩) 1 1]) := by
        show Blk _ _ _ _
        simpa using (H2.out.set 7 (.slice (some ⟨wr.heap.size, 0, none⟩) 1 1)).alloc _
      have HPL : Hid (PL w wr.heap.size aC cC aD cD aE cE ((wr.setCell ⟨w.heap.size + 1, 7, none⟩ (.slice (some ⟨wr.heap.size, 0, none⟩) 1 1)).alloc (.cells #[.slice aD 4 cD, .slice aE 4 cE, .slice (some ⟨w.heap.size + 1 + 1, 0, none⟩) 1 1] 86))) :=
        ⟨(keptSet H6.out (by omega) _).alloc _, (keptSet H7.out (by omega) _).alloc _, (keptSet H8.out (by omega) _).alloc _, (H3.out.far (by simp) _).alloc _, Blk.new' (by simp),
          (H5.out.setCell (by simp) _).alloc (by simp; exact H5.out.size) _, hlt2⟩
      have HZ : Hid (Blk ((wr.setCell ⟨w.heap.size + 1, 7, none⟩ (.slice (some ⟨wr.heap.size, 0, none⟩) 1 1)).alloc (.cells #[.slice aD 4 cD, .slice aE 4 cE, .slice (some ⟨w.heap.size + 1 + 1, 0, none⟩) 1 1] 86)) w.heap.size 38 #[.int .i64 0, .int .i64 0, .int .i64 0, .int .i64 0, .int .i64 0, .int .i64 0, .slice none 0 0, .slice none 0 0]) := (H1.out.far (by simp) _).alloc _
      clear H1 H2 H3 H4 H5 H6 H7 H8 x0 x1 x2 x3 x4 x5 x6 x7 y0 y1 y2 f7 hlt4 hlt2
      generalize wr.heap.size = bm at *
      generalize (wr.setCell ⟨w.heap.size + 1, 7, none⟩ (.slice (some ⟨bm, 0, none⟩) 1 1)).alloc (.cells #[.slice aD 4 cD, .slice aE 4 cE, .slice (some ⟨w.heap.size + 1 + 1, 0, none⟩) 1 1] 86) = w12 at *
      obtain ⟨x0, x1, x2, x3, x4, x5, x6, x7⟩ := HLM.out.eight
      have f3 := HLM.out.frozen 3
      go_upto_region 13 with fail
      replace HPL := Lib.hid (HPL.out.set (w.heap.size + 1) 3 (.int .i64 16) (by omega) (by omega))
      replace HZ := Lib.hid (HZ.out.far (p := ⟨w.heap.size + 1, 3, none⟩) (by simp) (.int .i64 16))
      have HL2 : Hid (Blk (w12.setCell ⟨w.heap.size + 1, 3, none⟩ (.int .i64 16)) (w.heap.size + 1) 38 #[.int .i64 4, .int .i64 0, .int .i64 0, .int .i64 16, .int .i64 0, .int .i64 1, .slice aC 4 cC, .slice (some ⟨bm, 0, none⟩) 1 1]) := by
        show Blk _ _ _ _
        simpa using HLM.out.set 3 (.int .i64 16)
      clear x0 x1 x2 x3 x4 x5 x6 x7 f3 HLM
      generalize w12.setCell ⟨w.heap.size + 1, 3, none⟩ (.int .i64 16) = w13 at *
      obtain ⟨x0, x1, x2, x3, x4, x5, x6, x7⟩ := HL2.out.eight
      have f2 := HL2.out.frozen 2
      go_upto_region 14 with fail
      replace HPL := Lib.hid (HPL.out.set (w.heap.size + 1) 2 (.int .i64 38) (by omega) (by omega))
      replace HZ := Lib.hid (HZ.out.far (p := ⟨w.heap.size + 1, 2, none⟩) (by simp) (.int .i64 38))
      have HL3 : Hid (Blk (w13.setCell ⟨w.heap.size + 1, 2, none⟩ (.int .i64 38)) (w.heap.size + 1) 38 #[.int .i64 4, .int .i64 0, .int .i64 38, .int .i64 16, .int .i64 0, .int .i64 1, .slice aC 4 cC, .slice (some ⟨bm, 0, none⟩) 1 1]) := by
        show Blk _ _ _ _
        simpa using HL2.out.set 2 (.int .i64 38)
      clear x0 x1 x2 x3 x4 x5 x6 x7 f2 HL2
      generalize w13.setCell ⟨w.heap.size + 1, 2, none⟩ (.int .i64 38) = w14 at *
      have hma := fun W h => rmaxAir_any ⟨4, 0, 38, 16, 0, 1, ⟨aC, cC, [true, true, true, true]⟩, some ⟨bm, 0, none⟩, 1, [⟨⟨aD, cD, [2, 2, 2, 2]⟩, ⟨aE, cE, [true, true, true, true]⟩, ⟨some ⟨w.heap.size + 1 + 1, 0, none⟩, 1, [true]⟩⟩]⟩ W h
      rw [show maxAir ⟨4, 0, 38, 16, 0, 1, ⟨aC, cC, [true, true, true, true]⟩, some ⟨bm, 0, none⟩, 1, [⟨⟨aD, cD, [2, 2, 2, 2]⟩, ⟨aE, cE, [true, true, true, true]⟩, ⟨some ⟨w.heap.size + 1 + 1, 0, none⟩, 1, [true]⟩⟩]⟩ = 62 from rfl] at hma
      unfold mev at hma
      simp only [List.length_cons, List.length_nil, Nat.zero_add, Nat.reduceAdd] at hma
      have HD := HL3.out.keep (Below.refl _ w14).drew
      have HPD := HPL.out.keep (Below.refl _ w14).drew
      have H1 : w14.drew.cell? ⟨w.heap.size + 1, 2, none⟩ = some (.int .i64 38) ∧ w14.heap.size ≤ w14.drew.heap.size := ⟨HD.cell 2, (Below.refl w14.heap.size w14).drew.size⟩
      have HZD := HZ.out.keep (Below.refl _ w14).drew
      have hw1 : IntKind.i64.wrap 76 = 76 := by decide
      have hw2 : IntKind.i64.wrap 138 = 138 := by decide
      clear HL3 HPL HZ
      refine wp_region_held_drew (S := (fun W => W.cell? ⟨w.heap.size + 1, 2, none⟩ = some (.int .i64 38) ∧ w14.heap.size ≤ W.heap.size)) (by kernel_rfl) (by assumption) (fun hHeld => ?_)
      generalize w14.drew = Wd at *
      (refine takeW (i := 0) (v := ?_) rfl (by kernel_rfl) (by kernel_rfl) (by kernel_rfl) (fun _ _ _ h => h) (by rfl) (by assumption) ?_ ?_; rotate_left; (intro W hW; (try dsimp only at hW); go_simp; try with_reducible rfl); (try simp only [Act.put, List.setIfInBounds_toArray, List.set_cons_zero, List.set_cons_succ]))
      (refine takeW (i := 1) (v := ?_) rfl (by kernel_rfl) (by kernel_rfl) (by kernel_rfl) (fun _ _ _ h => h) (by rfl) (by assumption) ?_ ?_; rotate_left; (intro W hW; (try dsimp only at hW); go_simp; try with_reducible rfl); (try simp only [Act.put, List.setIfInBounds_toArray, List.set_cons_zero, List.set_cons_succ]))
      (refine takeW (i := 2) (v := ?_) rfl (by kernel_rfl) (by kernel_rfl) (by kernel_rfl) (fun _ _ _ h => h) (by rfl) (by assumption) ?_ ?_; rotate_left; (intro W hW; (try dsimp only at hW); go_simp; try with_reducible rfl); (try simp only [Act.put, List.setIfInBounds_toArray, List.set_cons_zero, List.set_cons_succ]))
      (refine takeC (i := 3) rfl (by kernel_rfl) (by rfl) (fun K hK => ?_); obtain ⟨x0, x1, x2, x3, x4, x5, x6, x7⟩ := HD.eight; go_simp; (have hs : Wd.cell? ⟨w.heap.size + 1, 2, none⟩ = some (.int .i64 38) ∧ w14.heap.size ≤ Wd.heap.size := hHeld; clear x0 x1 x2 x3 x4 x5 x6 x7); refine hK.out _ _ hs (fun hHeld => ?_); clear hK K; (try simp only [Act.put, List.setIfInBounds_toArray, List.set_cons_zero, List.set_cons_succ]))
      (refine takeC (i := 4) rfl (by kernel_rfl) (by rfl) (fun K hK => ?_); go_simp; (refine (hma _ (HPD.good 0 38 16 (by unfold I64; omega) (by unfold I64; omega) (by unfold I64; omega))).mono ?_; rintro e W4 ⟨rfl, hb⟩; have hs : W4.cell? ⟨w.heap.size + 1, 2, none⟩ = some (.int .i64 38) ∧ w14.heap.size ≤ W4.heap.size := ⟨keepCell hb hHeld.1, Nat.le_trans hHeld.2 hb.size⟩; replace HD := HD.keep hb; replace HPD := HPD.keep hb; replace HZD := HZD.keep hb; clear hb); refine hK.out _ _ hs (fun hHeld => ?_); clear hK K; (try simp only [Act.put, List.setIfInBounds_toArray, List.set_cons_zero, List.set_cons_succ]))
      (refine takeW (i := 5) (v := ?_) rfl (by kernel_rfl) (by kernel_rfl) (by kernel_rfl) (fun _ _ _ h => h) (by rfl) (by assumption) ?_ ?_; rotate_left; (intro W hW; (try dsimp only at hW); go_simp; try with_reducible rfl); (try simp only [Act.put, List.setIfInBounds_toArray, List.set_cons_zero, List.set_cons_succ]))
      (refine takeW (i := 6) (v := ?_) rfl (by kernel_rfl) (by kernel_rfl) (by kernel_rfl) (fun _ _ _ h => h) (by rfl) (by assumption) ?_ ?_; rotate_left; (intro W hW; (try dsimp only at hW); go_simp; try with_reducible rfl); (try simp only [Act.put, List.setIfInBounds_toArray, List.set_cons_zero, List.set_cons_succ]))
      (refine takeC (i := 7) rfl (by kernel_rfl) (by rfl) (fun K hK => ?_); obtain ⟨x0, x1, x2, x3, x4, x5, x6, x7⟩ := HD.eight; have f1 := HD.frozen 1; go_simp; (have hs : (W4.setCell ⟨w.heap.size + 1, 1, none⟩ (.int .i64 138)).cell? ⟨w.heap.size + 1, 2, none⟩ = some (.int .i64 38) ∧ w14.heap.size ≤ (W4.setCell ⟨w.heap.size + 1, 1, none⟩ (.int .i64 138)).heap.size := ⟨by have := (HD.set 1 (.int .i64 138)).cell 2; simpa using this, by simpa [World.setCell] using hHeld.2⟩); refine hK.out _ _ hs (fun hHeld => ?_); clear hK K; (try simp only [Act.put, List.setIfInBounds_toArray, List.set_cons_zero, List.set_cons_succ]))
      refine wpAnyH_done (by kernel_rfl) ?_ _
      skip
      clear hw1 hw2 hma H1
      have HPE := Lib.hid (HPD.set (w.heap.size + 1) 1 (.int .i64 138) (by omega) (by omega))
      have HZE := Lib.hid (HZD.far (p := ⟨w.heap.size + 1, 1, none⟩) (by simp) (.int .i64 138))
      have HDE : Hid (Blk (W4.setCell ⟨w.heap.size + 1, 1, none⟩ (.int .i64 138)) (w.heap.size + 1) 38 #[.int .i64 4, .int .i64 138, .int .i64 38, .int .i64 16, .int .i64 0, .int .i64 1, .slice aC 4 cC, .slice (some ⟨bm, 0, none⟩) 1 1]) := by
        show Blk _ _ _ _
        simpa using HD.set 1 (.int .i64 138)
      clear HD HPD HZD hHeld
      generalize W4.setCell ⟨w.heap.size + 1, 1, none⟩ (.int .i64 138) = w15 at *
      obtain ⟨x0, x1, x2, x3, x4, x5, x6, x7⟩ := HDE.out.eight
      obtain ⟨z0, z1, z2, z3, z4, z5, z6, z7⟩ := HZE.out.eight
      have g0 := HZE.out.frozen 0
      have g1 := HZE.out.frozen 1
      have g2 := HZE.out.frozen 2
      have g3 := HZE.out.frozen 3
      have g4 := HZE.out.frozen 4
      have g5 := HZE.out.frozen 5
      have g6 := HZE.out.frozen 6
      have g7 := HZE.out.frozen 7
      have HF : Hid (PL w bm aC cC aD cD aE cE ((((((((w15.setCell ⟨w.heap.size, 0, none⟩ (.int .i64 4)).setCell ⟨w.heap.size, 1, none⟩ (.int .i64 138)).setCell ⟨w.heap.size, 2, none⟩ (.int .i64 38)).setCell ⟨w.heap.size, 3, none⟩ (.int .i64 16)).setCell ⟨w.heap.size, 4, none⟩ (.int .i64 0)).setCell ⟨w.heap.size, 5, none⟩ (.int .i64 1)).setCell ⟨w.heap.size, 6, none⟩ (.slice aC 4 cC)).setCell ⟨w.heap.size, 7, none⟩ (.slice (some ⟨bm, 0, none⟩) 1 1))) := ((((((((HPE.out.set w.heap.size 0 (.int .i64 4) (by omega) (by omega)).set w.heap.size 1 (.int .i64 138) (by omega) (by omega)).set w.heap.size 2 (.int .i64 38) (by omega) (by omega)).set w.heap.size 3 (.int .i64 16) (by omega) (by omega)).set w.heap.size 4 (.int .i64 0) (by omega) (by omega)).set w.heap.size 5 (.int .i64 1) (by omega) (by omega)).set w.heap.size 6 (.slice aC 4 cC) (by omega) (by omega)).set w.heap.size 7 (.slice (some ⟨bm, 0, none⟩) 1 1) (by omega) (by omega))
      have HFZ : Hid (Blk ((((((((w15.setCell ⟨w.heap.size, 0, none⟩ (.int .i64 4)).setCell ⟨w.heap.size, 1, none⟩ (.int .i64 138)).setCell ⟨w.heap.size, 2, none⟩ (.int .i64 38)).setCell ⟨w.heap.size, 3, none⟩ (.int .i64 16)).setCell ⟨w.heap.size, 4, none⟩ (.int .i64 0)).setCell ⟨w.heap.size, 5, none⟩ (.int .i64 1)).setCell ⟨w.heap.size, 6, none⟩ (.slice aC 4 cC)).setCell ⟨w.heap.size, 7, none⟩ (.slice (some ⟨bm, 0, none⟩) 1 1)) w.heap.size 38 #[.int .i64 4, .int .i64 138, .int .i64 38, .int .i64 16, .int .i64 0, .int .i64 1, .slice aC 4 cC, .slice (some ⟨bm, 0, none⟩) 1 1]) := by
        show Blk _ _ _ _
        simpa using ((((((((HZE.out.set 0 (.int .i64 4)).set 1 (.int .i64 138)).set 2 (.int .i64 38)).set 3 (.int .i64 16)).set 4 (.int .i64 0)).set 5 (.int .i64 1)).set 6 (.slice aC 4 cC)).set 7 (.slice (some ⟨bm, 0, none⟩) 1 1))
      go_wp2
      obtain ⟨u0, u1, u2, u3, u4, u5, u6, u7⟩ := HFZ.out.eight
      refine bodyPost_ret (v := .tuple #[.agg #[.int .i64 4, .int .i64 138, .int .i64 38, .int .i64 16, .int .i64 0, .int .i64 1, .slice aC 4 cC, .slice (some ⟨bm, 0, none⟩) 1 1], .int .i64 0]) (by simp [results, Tryz.results12, go_sem, u0, u1, u2, u3, u4, u5, u6, u7]) rfl ⟨⟨_, rfl, HF.out.good 138 38 16 (by unfold I64; omega) (by unfold I64; omega) (by unfold I64; omega), rfl, rfl, rfl, rfl, rfl, rfl, rfl⟩, HF.out.2.2.2.2.2.1⟩
end Go.Proofs.YtkinhhkodaacjaaGreatDoor
