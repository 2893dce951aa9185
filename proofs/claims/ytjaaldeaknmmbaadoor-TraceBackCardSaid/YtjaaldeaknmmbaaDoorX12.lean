/- The document's host: plain laws, and what its steps keep. The document's host. -/
import Derived.Test.YtjaaldeaknmmbaaDoorX10
namespace Go.Proofs.YtjaaldeaknmmbaaDoor
open Go.RowKit Go.Shelf

theorem row4 {w a b c : List UInt8} {h : List Int} : rowS wHost 3 [w, a, b, c] = some h ↔ w = wHost ∧ ∃ x y z, h = [x, y, z] ∧ numS a = some x ∧ numS b = some y ∧ numS c = some z := by
  unfold rowS
  constructor
  · intro e
    split at e
    · next hc =>
      obtain ⟨x, y, z, e1, e2, e3, e4⟩ := numsS_three e
      exact ⟨by simpa using hc.2, x, y, z, e1, e2, e3, e4⟩
    · cases e
  · rintro ⟨rfl, x, y, z, rfl, e2, e3, e4⟩
    rw [if_pos ⟨rfl, rfl⟩]
    simp [numsS, e2, e3, e4]
theorem row2 {w a : List UInt8} {h : List Int} : rowS wIn 1 [w, a] = some h ↔ w = wIn ∧ ∃ x, h = [x] ∧ numS a = some x := by
  unfold rowS
  constructor
  · intro e
    split at e
    · next hc =>
      have e' : numsS [a] = some h := e
      have hl := numsS_len e'
      match h, hl with
      | [x], _ => exact ⟨by simpa using hc.2, x, rfl, numsS_one.1 e'⟩
    · cases e
  · rintro ⟨rfl, x, rfl, e2⟩
    rw [if_pos ⟨rfl, rfl⟩]
    simp [numsS, e2]
theorem hostS_yes {w a b c o k : List UInt8} {h : List Int} {x : List UInt8} {K : Int} (h1 : rowS wHost 3 [w, a, b, c] = some h) (h2 : unhexW o = some x) (h3 : numS k = some K) (h4 : 0 ≤ K) : hostS [w, a, b, c, o, k] = some (h, x, K.toNat) := by
  obtain ⟨rfl, p, q, r, rfl, e1, e2, e3⟩ := row4.1 h1
  unfold hostS
  simp only [if_pos, e1, e2, e3, h2, h3, h4]
theorem hostS_no {w a b c o k : List UInt8} (h : rowS wHost 3 [w, a, b, c] = none ∨ unhexW o = none ∨ numS k = none ∨ (∃ K, numS k = some K ∧ K < 0)) : hostS [w, a, b, c, o, k] = none := by
  cases hh : hostS [w, a, b, c, o, k] with
  | none => rfl
  | some q =>
    exfalso
    unfold hostS at hh
    simp only at hh
    split at hh
    · next hw =>
      split at hh
      · next a' b' c' o' k' e1 e2 e3 e4 e5 =>
        split at hh
        · next h0 =>
          rcases h with h | h | h | ⟨K, h, hK⟩
          · have := row4.2 ⟨hw, a', b', c', rfl, e1, e2, e3⟩
            rw [h] at this
            cases this
          · rw [h] at e4; cases e4
          · rw [h] at e5; cases e5
          · rw [h] at e5; cases e5; omega
        · cases hh
      · cases hh
    · cases hh
theorem hostS_len {ws : List (List UInt8)} (h : ws.length ≠ 6) : hostS ws = none := by
  cases hh : hostS ws with
  | none => rfl
  | some q =>
    obtain ⟨a, b, c⟩ := q
    obtain ⟨_, _, _, _, e, _⟩ := hostS_some hh
    rw [e] at h
    exact absurd rfl h
theorem inS_yes {w a o : List UInt8} {x : Int} {d : List UInt8} (h1 : rowS wIn 1 [w, a] = some [x]) (h2 : unhexW o = some d) : inS [w, a, o] = some (x, d) := by
  obtain ⟨rfl, y, e, e1⟩ := row2.1 h1
  obtain rfl : x = y := by simpa using e
  unfold inS
  simp only [if_pos, e1, h2]
theorem inS_no {w a o : List UInt8} (h : rowS wIn 1 [w, a] = none ∨ unhexW o = none) : inS [w, a, o] = none := by
  cases hh : inS [w, a, o] with
  | none => rfl
  | some q =>
    exfalso
    obtain ⟨e, hi⟩ := inS_iff.1 hh
    simp only [List.cons.injEq, and_true] at e
    obtain ⟨rfl, rfl, rfl⟩ := e
    rcases h with h | h
    · have := row2.2 ⟨rfl, q.1, rfl, numS_decZ hi⟩
      rw [h] at this
      cases this
    · rw [unhexW_iff.2 rfl] at h; cases h
theorem inS_len {ws : List (List UInt8)} (h : ws.length ≠ 3) : inS ws = none := by
  cases hh : inS ws with
  | none => rfl
  | some q =>
    obtain ⟨e, _⟩ := inS_iff.1 hh
    rw [e] at h
    exact absurd rfl h
theorem host_none {r : List UInt8} {n m : Nat} (h : lineP hostS r n = (none, m)) : hostP r n = (none, m) := by unfold hostP; rw [h]
theorem line_none {α : Type} {f : List (List UInt8) → Option α} {r : List UInt8} {n : Nat} (h : nextW r = none ∨ ∃ ws r', nextW r = some (ws, r') ∧ f ws = none) : lineP f r n = (none, n + 1) := by
  unfold lineP
  rcases h with h | ⟨ws, r', h, h2⟩
  · rw [h]
  · rw [h]
    simp only [h2]
    rfl
theorem line_some {α : Type} {f : List (List UInt8) → Option α} {r r' : List UInt8} {n : Nat} {ws : List (List UInt8)} {a : α} (h : nextW r = some (ws, r')) (h2 : f ws = some a) : lineP f r n = (some (a, r'), n + 1) := by
  unfold lineP
  rw [h]
  simp only [h2]
  rfl
theorem next_len {r r' : List UInt8} {ws : List (List UInt8)} (h : nextW r = some (ws, r')) : (∀ w ∈ ws, w.length ≤ r.length) ∧ r'.length < r.length := by
  have := nextW_some h
  simp only at this
  exact ⟨fun w hw => by have := mem_len (c := 32) hw; omega, by omega⟩
theorem encH_one (x : Sn) : ∀ u ∈ encH x, u.oneCell' = true := fun u hu => encS_one x u (List.mem_of_mem_drop hu)
theorem wds_take {W : World} {a : Option Addr} {n c : Nat} {ws : List (List UInt8)} (h : Wds W (.slice a n c) ws) (k : Nat) (hk : k ≤ ws.length) : Wds W (.slice a k c) (ws.take k) := by
  obtain ⟨a', cap', e, h1, h2, h3, h5, h4⟩ := h
  simp only [Value.slice.injEq] at e
  obtain ⟨rfl, rfl, rfl⟩ := e
  have hl : (ws.take k).length = k := by rw [List.length_take]; omega
  refine ⟨a, c, by rw [hl], by omega, h2, by omega, h5, ?_⟩
  rcases h4 with h4 | ⟨g, off, rfl, hlt, hc⟩
  · exact .inl (by rw [h4]; simp)
  · refine .inr ⟨g, off, rfl, hlt, fun j x hj i u hu => hc j x ?_ i u hu⟩
    rw [List.getElem?_take] at hj
    split at hj
    · exact hj
    · cases hj
theorem exec_head {w : World} {o : Oper} {ac : Act} {x : Operand} {a : Option Addr} {n c : Nat} (k : Nat) (hk : k ≤ n) (hnc : n ≤ c) (_hc : c ≤ 9223372036854775807) (h0 : 0 < k) (ho : o.op = .slice 80 x none (some (.const (.int .i64 (k : Int)))) none) (hx : ac.eval x = .slice a n c) :
    (execOp ac.eval o).run Tryd.prog w = .ok (.value (.slice a k c)) w := by
  have := run_sliceAt_slice (P := Tryd.prog) (w := w) 80 (.slice a n c) none (some (.int .i64 (k : Int))) none (by kernel_rfl)
  have h2 : (Instr.sliceAt 80 (.slice a n c) none (some (.int .i64 (k : Int))) none).run Tryd.prog w = .ok (.slice a k c) w := by
    rw [this, run_slice_h (P := Tryd.prog) (w := w) 80 _ n c (by kernel_rfl) .i64 k (by omega) (by omega), show Tryd.prog.elem 80 = 9 by kernel_rfl, Tryd.sizeOf9]
    simp [Result.andThen, sliced, Addr.add]
  exact exec_slice ho hx rfl rfl h2
theorem exec_bld39 {w : World} {o : Oper} {a : Act} {X0 X3 X4 X1 : Operand} {hi lf wt : Int} {oa : Option Addr} {on oc : Nat} (ho : o.op = .build 39 #[(0, X0), (3, X3), (4, X4), (1, X1)]) (h0 : a.eval X0 = .int .i64 hi) (h3 : a.eval X3 = .int .i64 lf) (h4 : a.eval X4 = .int .i64 wt) (h1 : a.eval X1 = .slice oa on oc) :
    (execOp a.eval o).run Tryd.prog w = .ok (.value (.agg (encH { z0 with hi := hi, lf := lf, wt := wt, oa := oa, on := on, oc := oc }).toArray)) w := by
  have hb : Tryd.prog.built 39 #[(0, Value.int .i64 hi), (3, .int .i64 lf), (4, .int .i64 wt), (1, .slice oa on oc)].toList = some (encH { z0 with hi := hi, lf := lf, wt := wt, oa := oa, on := on, oc := oc }).toArray := by kernel_rfl
  simp [execOp, ho, h0, h1, h3, h4, run_build w 39 #[(0, Value.int .i64 hi), (3, .int .i64 lf), (4, .int .i64 wt), (1, .slice oa on oc)] _ hb, Result.andThen]
theorem exec_bld39z {w : World} {o : Oper} {a : Act} (ho : o.op = .build 39 #[]) : (execOp a.eval o).run Tryd.prog w = .ok (.value (.agg (encH z0).toArray)) w := by
  have hb : Tryd.prog.built 39 (#[] : Array (Nat × Value)).toList = some (encH z0).toArray := by kernel_rfl
  simp [execOp, ho, run_build w 39 #[] _ hb, Result.andThen]
theorem exec_bld49 {w : World} {o : Oper} {a : Act} {X0 X1 : Operand} {m : Mx} (ho : o.op = .build 49 #[(1, X1), (0, X0)]) (h1 : a.eval X1 = .int .i64 m.age) (h0 : a.eval X0 = m.d.v) :
    (execOp a.eval o).run Tryd.prog w = .ok (.value (.agg (encMx m).toArray)) w := by
  obtain ⟨⟨da, dc, dl⟩, age⟩ := m
  have hb : Tryd.prog.built 49 #[(1, Value.int .i64 age), (0, Value.slice da dl.length dc)].toList = some (encMx ⟨⟨da, dc, dl⟩, age⟩).toArray := by kernel_rfl
  simp only [Bv.v] at h0 h1
  simp [execOp, ho, h0, h1, run_build w 49 #[(1, Value.int .i64 age), (0, Value.slice da dl.length dc)] _ hb, Result.andThen]
theorem exec_all39 {w : World} {o : Oper} {a : Act} (ho : o.op = .alloc 39) : (execOp a.eval o).run Tryd.prog w = .ok (.value (.pointer (some ⟨w.heap.size, 0, none⟩))) (w.alloc (.cells (encH z0).toArray 39)) := by
  generalize a.eval = ev at *
  unfold execOp
  simp only [ho]
  go_simp
  try rfl
/-- Where the document's reader stands, with a host's box. -/
structure DS (br bh b2 : Nat) (s : List UInt8) (w W : World) (a n : Nat) (z : Sn) : Prop where
  rd : Blk W br 56 (rfC s a n).toArray
  hb : Blk W bh 39 (encH z).toArray
  res : Blk W b2 39 (encH z0).toArray
  fr : Fr (fun j => j = br) w W
  al : a ≤ s.length
  nl : n + (s.length - a) ≤ 999999999
section
variable {br bh b2 : Nat} {s : List UInt8} {w W X : World} {a n : Nat} {z : Sn} {G : Nat → Prop}
theorem DS.fr' (h : DS br bh b2 s w W a n z) (k : Fr G W X) (h1 : ¬ G br) (h2 : ¬ G bh) (h3 : ¬ G b2) (hG : ∀ j, j < w.heap.size → ¬ G j) : DS br bh b2 s w X a n z :=
  ⟨h.rd.fr k h1, h.hb.fr k h2, h.res.fr k h3, h.fr.step k (fun j hj e => absurd e (hG j hj)), h.al, h.nl⟩
theorem DS.below (h : DS br bh b2 s w W a n z) (k : Below W.heap.size W X) : DS br bh b2 s w X a n z := h.fr' (Fr.below k) id id id (fun _ _ e => e)
theorem DS.next (h : DS br bh b2 s w W a n z) (hg : W.grownBy X (some br)) {a' : Nat} (hr : Blk X br 56 (rfC s a' (n + 1)).toArray) (h1 : a < a') (h2 : a' ≤ s.length) : DS br bh b2 s w X a' (n + 1) z :=
  ⟨hr, h.hb.fr (Fr.grown hg) (fun e => blk_neq h.hb h.rd (by decide) e), h.res.fr (Fr.grown hg) (fun e => blk_neq h.res h.rd (by decide) e), h.fr.step (Fr.grown hg) (fun _ _ e => e), h2, by have := h.nl; have := h.al; omega⟩
theorem DS.app (h : DS br bh b2 s w W a n z) {v : Value} {k : Nat} {xs : List Value} (ho : W.ownsRow w.heap.size 49 2 v k xs) (hg : W.grownBy X v.ownBlock) : DS br bh b2 s w X a n z :=
  h.fr' (Fr.grownO hg) (fun e => own_blk_ne ho h.rd (by decide) e) (fun e => own_blk_ne ho h.hb (by decide) e) (fun e => own_blk_ne ho h.res (by decide) e) (fun j hj e => by have := (ho.lt j e).1; omega)
theorem DS.setIn (h : DS br bh b2 s w W a n z) (hw : w.heap.size ≤ bh) (hne : bh ≠ b2) (p : Option Addr) (k c : Nat) : DS br bh b2 s w (W.setCell ⟨bh, 2, none⟩ (.slice p k c)) a n { z with ia := p, nn := k, ic := c } :=
  ⟨h.rd.far (Ne.symm (blk_neq h.hb h.rd (by decide))) _, h.hb.setL 2 _, h.res.far (Ne.symm hne) _, h.fr.step (Fr.setCell _ _ _) (fun j hj e => by have e' : j = bh := e; omega), h.al, h.nl⟩
end
end Go.Proofs.YtjaaldeaknmmbaaDoor
namespace Go.Proofs.YtjaaldeaknmmbaaDoor
open Go.RowKit Go.Shelf

theorem own_cell0 {W : World} {B : Nat} {e : TypeId} {g o n c : Nat} {u : Value} {xs : List Value} (h : W.ownsRow B e 1 (.slice (some ⟨g, o, none⟩) n c) (xs.length + 1) (u :: xs)) : W.cell? ⟨g, o, none⟩ = some u := by
  rcases h.2 with ⟨e0, _⟩ | ⟨g', cap', cur', e0, hb, hh, h1, h2, h3, h4⟩
  · cases e0
  · simp only [Value.slice.injEq, Option.some.injEq, Addr.mk.injEq, and_true] at e0
    obtain ⟨⟨rfl, rfl⟩, -, -⟩ := e0
    rw [Lib.cell_of_heap hh]
    have e2 : cur'.toList[0]? = some u := by
      have : (cur'.toList.take ((xs.length + 1) * 1))[0]? = some u := by rw [h4]; rfl
      rw [List.getElem?_take] at this
      split at this
      · exact this
      · cases this
    simpa using e2
theorem own_cellsV {W : World} {B : Nat} {e : TypeId} {v : Value} {n : Nat} {xs : List Value} (h : W.ownsRow B e 1 v n xs) (hn : n ≠ 0) (_hx : xs.length = n) : ∃ g c, v = .slice (some ⟨g, 0, none⟩) n c ∧ n ≤ c ∧ c ≤ 9223372036854775807 ∧ g < W.heap.size ∧ ∀ j u, xs[j]? = some u → W.cell? ⟨g, j, none⟩ = some u := by
  rcases h.2 with ⟨e0, h0⟩ | ⟨g', cap', cur', e0, hb, hh, h1, h2, h3, h4⟩
  · exact absurd h0 hn
  · refine ⟨g', cap', e0, h1, by simpa [maxLen] using h2, (Array.getElem?_eq_some_iff.1 hh).1, fun j u hj => ?_⟩
    rw [Lib.cell_of_heap hh]
    have e2 : (cur'.toList.take (n * 1))[j]? = some u := by rw [h4]; exact hj
    rw [List.getElem?_take] at e2
    split at e2
    · simpa using e2
    · cases e2
theorem results_cell2v {fn : Func} {a t : Tmp} {ty : TypeId} {n : Nat} {w : World} {P : Program} {tmps : Array Value} (h : fn.results = #[.cell a ty, .tmp t]) (hw : Wide P ty n) {b : Nat} (hp : tmps.getD a undef = .pointer (some ⟨b, 0, none⟩)) {cs : List Value} (hl : cs.length = n)
    (hc : ∀ j u, cs[j]? = some u → w.cell? ⟨b, 0 + j, none⟩ = some u) {v : Value} (hv : tmps.getD t undef = v) : (results fn tmps).run P w = .ok (.tuple #[.agg cs.toArray, v]) w := by
  subst hv
  exact results_cell2 h hw hp hl hc
def HostD (br : Nat) (s : List UInt8) (a n : Nat) (w : World) (e : Ending) (w' : World) : Prop :=
  ∃ (ok : Bool) (a2 n2 : Nat) (y : Sx), e = .returned (.tuple #[.agg (encH y.s).toArray, .bool ok]) ∧ Blk w' br 56 (rfC s a2 n2).toArray ∧ w.grownBy w' (some br) ∧ OwnX w.heap.size w' y ∧ a2 ≤ s.length ∧ n2 ≤ 1000000000 ∧
    match hostP (s.drop a) n with
    | (none, m) => ok = false ∧ n2 = m
    | (some (q, r), m) => ok = true ∧ n2 = m ∧ r = s.drop a2 ∧ n2 + (s.length - a2) ≤ 999999999 ∧ q = ([y.s.hi, y.s.lf, y.s.wt], bytesOf y.out, y.ms.map Mx.k)
set_option maxRecDepth 100000 in
set_option maxHeartbeats 3200000 in
theorem rhost_any (br : Nat) (s : List UInt8) (a n : Nat) (w : World) (hb : Blk w br 56 (rfC s a n).toArray) (hl : s.length ≤ 900000000) (ha : a ≤ s.length) (hn : n + (s.length - a) ≤ 999999999) : Calls Tryd.prog 30 #[.pointer (some ⟨br, 0, none⟩)] w (HostD br s a n w) := by
  obtain ⟨b2, hb2⟩ : ∃ b, b = w.heap.size := ⟨_, rfl⟩
  have hs9 : s.length ≤ 1000000000 := by omega
  have hn9 : n ≤ 1000000000 := by omega
  have HBRL : Hid (br < w.heap.size) := hb.lt
  have HNB : Hid (n + (s.length - a) ≤ 999999999) := hn
  have HBB : Hid (b2 = w.heap.size) := hb2
  have hfs : ∀ (X : World) (cs : Array Value), Blk X b2 39 (encH z0).toArray → Fr (fun j => j = br) w X → Fr (fun j => j = br) w (X.setRow b2 cs) := fun X cs h k => k.step (fr_setRow h) (fun j hj e => by omega)
  have HFAIL : Hid (∀ (X : World) (n2 a2 : Nat), Blk X br 56 (rfC s a2 n2).toArray → Blk X b2 39 (encH z0).toArray → Fr (fun j => j = br) w X → a2 ≤ s.length → n2 ≤ 1000000000 → hostP (s.drop a) n = (none, n2) → HostD br s a n w (.returned (.tuple #[.agg (encH z0).toArray, .bool false])) (X.setRow b2 (encH z0).toArray)) := fun X n2 a2 h1 h2 h3 h4 h5 h6 =>
    ⟨false, a2, n2, ⟨z0, [], []⟩, rfl, h1.fr (fr_setRow h2) (fun e => by have := h1.lt; have := HBRL.out; have e' : br = b2 := e; omega), (hfs X _ h2 h3).grownB, ⟨⟨by simp, .inl ⟨rfl, rfl⟩⟩, by simp, ⟨by simp, .inl ⟨rfl, rfl⟩⟩, by simp⟩, h4, h5, by rw [h6]; exact ⟨rfl, rfl⟩⟩
  have HGOOD : Hid (∀ (X : World) (n2 a2 : Nat) (y : Sx) (q : List Int × List UInt8 × List (Int × List UInt8)), Blk X br 56 (rfC s a2 n2).toArray → Blk X b2 39 (encH z0).toArray → Fr (fun j => j = br) w X → a2 ≤ s.length → n2 + (s.length - a2) ≤ 999999999 → OwnX w.heap.size X y → hostP (s.drop a) n = (some (q, s.drop a2), n2) → q = ([y.s.hi, y.s.lf, y.s.wt], bytesOf y.out, y.ms.map Mx.k) →
      HostD br s a n w (.returned (.tuple #[.agg (encH y.s).toArray, .bool true])) (X.setRow b2 (encH y.s).toArray)) := fun X n2 a2 y q h1 h2 h3 h4 h5 h6 h7 h8 =>
    ⟨true, a2, n2, y, rfl, h1.fr (fr_setRow h2) (fun e => by have := h1.lt; have := HBRL.out; have e' : br = b2 := e; omega), (hfs X _ h2 h3).grownB, h6.fr (fr_setRow h2) (fun j e => blkF h2 (by decide) (by decide) e), h4, by omega, by rw [h7]; exact ⟨rfl, rfl, rfl, h5, h8⟩⟩
  generalize HostD br s a n w = POST at *
  have HRB := Lib.hid hb
  clear hb hfs hn hl
  go_enter Tryd.func30, Tryd.ntmps30
  go_upto_region 1 with fail
  obtain ⟨W0, hW0⟩ : ∃ W0, W0 = w.alloc (.cells (encH z0).toArray 39) := ⟨_, rfl⟩
  have hW0' : W0 = w.alloc (.cells #[.int .i64 0, .slice none 0 0, .slice none 0 0, .int .i64 0, .int .i64 0] 39) := hW0
  rw [← hW0', ← hb2]
  have HB20 : Hid (Blk W0 b2 39 (encH z0).toArray) := by rw [hW0]; exact Blk.new' hb2.symm
  have HBE : Hid (Below w.heap.size w W0) := by rw [hW0]; exact below1 _ _
  have HR0 := Lib.hid (HRB.out.keep HBE.out)
  have HF0 : Hid (Fr (fun j => j = br) w W0) := Fr.mono (Fr.below HBE.out) (fun _ h => h.elim)
  clear hW0 hW0' hb2 HRB
  go_wp2_with (go_at_call 29; refine (rnext_any br s a n W0 HR0.out hs9 ha hn9).mono ?_)
  rintro e W1 ⟨v, rfl, hg, hcase⟩
  have HB2 : Hid (Blk W1 b2 39 (encH z0).toArray) := HB20.out.fr (Fr.grown hg) (fun e => blk_neq HB20.out HR0.out (by decide) e)
  have HF : Hid (Fr (fun j => j = br) w W1) := HF0.out.step (Fr.grown hg) (fun _ _ e => e)
  have HBW : Hid (w.heap.size ≤ W0.heap.size) := HF0.out.size
  rcases hcase with ⟨ws, a1, hnx, h12, h2l, how, hr⟩ | ⟨hnx, rfl, hr⟩
  rotate_left
  · have HR := Lib.hid hr
    have HAL : Hid (a ≤ s.length) := ha
    have HNL : Hid (n + 1 ≤ 1000000000) := by have := HNB.out; show _ ≤ _; omega
    have HNX := Lib.hid hnx
    clear hr hnx hg HB20 HR0 HF0
    go_wp2_with (first | ((with_reducible show wpList _ _ _ (Oper.mk (some 23) _ _ _ _ _ :: _) _ _); refine wpList_val rfl (exec_bld39z rfl) ?_) | ((with_reducible show wpList _ _ _ (Oper.mk none _ _ _ _ _ :: _) _ _); refine wpList_skipped rfl (exec_storeW W37 rfl rfl rfl rfl (encH_one _) HB2.out rfl) ?_))
    exact bodyPost_ret (results_cell2v rfl W37 rfl rfl (Blk.list (Blk.part HB2.out)) (v := .bool false) rfl) rfl (HFAIL.out _ _ _ HR.out HB2.out HF.out HAL.out HNL.out (host_none (line_none (.inl HNX.out))))
  · have HR := Lib.hid hr
    have HAL : Hid (a1 ≤ s.length) := h2l
    have HNL : Hid (n + 1 ≤ 1000000000) := by have := HNB.out; show _ ≤ _; omega
    have HNX := Lib.hid hnx
    have HOWS := Lib.hid (own_le how HBW.out)
    have HNB1 : Hid (n + 1 + (s.length - a1) ≤ 999999999) := by have := HNB.out; show _ ≤ _; omega
    have HA12 : Hid (a < a1) := h12
    obtain ⟨va, vc, rfl, hc6, hcm, -⟩ := owns_shape how
    clear hr hnx hg how h12 h2l HB20 HR0 HF0
    by_cases h6 : ws.length = 6
    rotate_left
    · have h6b : ((ws.length : Int) != 6) = true := by simp; omega
      have h6c : ((ws.length : Int) == 6) = false := by simp; omega
      have HNO := Lib.hid (hostS_len h6)
      clear h6
      go_wp2_with (first | ((with_reducible show wpList _ _ _ (Oper.mk (some 23) _ _ _ _ _ :: _) _ _); refine wpList_val rfl (exec_bld39z rfl) ?_) | ((with_reducible show wpList _ _ _ (Oper.mk none _ _ _ _ _ :: _) _ _); refine wpList_skipped rfl (exec_storeW W37 rfl rfl rfl rfl (encH_one _) HB2.out rfl) ?_))
      exact bodyPost_ret (results_cell2v rfl W37 rfl rfl (Blk.list (Blk.part HB2.out)) (v := .bool false) rfl) rfl (HFAIL.out _ _ _ HR.out HB2.out HF.out HAL.out HNL.out (host_none (line_none (.inr ⟨_, _, HNX.out, HNO.out⟩))))
    · obtain ⟨w1, w2, w3, w4, w5, w6, rfl⟩ := list6 h6
      have hc6' : 6 ≤ vc := hc6
      have hln := next_len HNX.out
      have HWL : Hid (∀ x ∈ [w1, w2, w3, w4, w5, w6], x.length ≤ 1000000000) := fun x hx => by have := hln.1 x hx; rw [List.length_drop] at this; omega
      obtain ⟨g1, c1, e1, -, -, hg1, hcell⟩ := own_cellsV (xs := [strV w1, strV w2, strV w3, strV w4, strV w5, strV w6]) HOWS.out (by simp) rfl
      simp only [Value.slice.injEq] at e1
      obtain ⟨rfl, -, rfl⟩ := e1
      have HC41 : Hid (W1.cell? ⟨g1, 4, none⟩ = some (strV w5)) := hcell 4 _ rfl
      have HC51 : Hid (W1.cell? ⟨g1, 5, none⟩ = some (strV w6)) := hcell 5 _ rfl
      have HG1 : Hid (g1 < W1.heap.size) := hg1
      have HLV : Hid (Wds W1 (.slice (some ⟨g1, 0, none⟩) 6 vc) [w1, w2, w3, w4, w5, w6]) := Rd.of_owns (enc := encT) (size := 1) encT_len (l := [w1, w2, w3, w4, w5, w6]) HOWS.out (by simp)
      have HLT : Hid (Wds W1 (.slice (some ⟨g1, 0, none⟩) 4 vc) [w1, w2, w3, w4]) := wds_take HLV.out 4 (by simp)
      clear h6 hc6 hcell hg1 hln HLV HOWS
      have hc6 := hc6'
      clear hc6'
      go_wp2_with (first | ((with_reducible show wpList _ _ _ (Oper.mk (some 26) _ _ _ _ _ :: _) _ _); refine wpList_val rfl (exec_head 4 (by omega) hc6 hcm (by omega) rfl rfl) ?_) | (go_at_call 28; refine (row28_any wHost 3 [w1, w2, w3, w4] _ W1 HLT.out (fun x hx => HWL.out x (List.mem_of_mem_take (i := 4) (l := [w1, w2, w3, w4, w5, w6]) hx)) (by decide)).mono ?_))
      rintro e W2 ⟨⟨v5, b5, rfl, h5s, h5n⟩, hb2⟩
      have H5S := Lib.hid h5s
      have H5N := Lib.hid h5n
      have HC4 : Hid (W2.cell? ⟨g1, 4, none⟩ = some (strV w5)) := (hb2.cell HG1.out).trans HC41.out
      have HC52 : Hid (W2.cell? ⟨g1, 5, none⟩ = some (strV w6)) := (hb2.cell HG1.out).trans HC51.out
      have HG2 : Hid (g1 < W2.heap.size) := Nat.lt_of_lt_of_le HG1.out hb2.size
      have HR' := Lib.hid (HR.out.keep hb2)
      have HB2' := Lib.hid (HB2.out.keep hb2)
      have HF' : Hid (Fr (fun j => j = br) w W2) := HF.out.step (Fr.below hb2) (fun _ _ e => e.elim)
      have HZ1 : Hid (w.heap.size ≤ W1.heap.size) := HF.out.size
      clear h5s h5n hb2 HC41 HC51 HG1 HLT HR HB2 HF
      go_wp2_with (first | ((with_reducible show wpList _ _ _ (Oper.mk (some 33) _ _ _ _ _ :: _) _ _); refine wpList_val rfl (exec_loadStr (v := strV w5) rfl rfl HC4.out) ?_) | (go_at_call 48; refine (bytes48_any w5 W2 (HWL.out w5 (by simp))).mono ?_))
      rintro e W3 ⟨⟨v7, b8, rfl, h7s, h7n⟩, hb3⟩
      have H7S := Lib.hid h7s
      have H7N := Lib.hid h7n
      have HC5 : Hid (W3.cell? ⟨g1, 5, none⟩ = some (strV w6)) := (hb3.cell HG2.out).trans HC52.out
      have H5S3 : Hid (∀ ns, rowS wHost 3 [w1, w2, w3, w4] = some ns → b5 = true ∧ W3.ownsRow w.heap.size 3 1 v5 ns.length (ns.map (.int .i64))) := fun ns h => ⟨(H5S.out ns h).1, own_le (ow_below (H5S.out ns h).2 hb3) HZ1.out⟩
      have HR := Lib.hid (HR'.out.keep hb3)
      have HB2 := Lib.hid (HB2'.out.keep hb3)
      have HF : Hid (Fr (fun j => j = br) w W3) := HF'.out.step (Fr.below hb3) (fun _ _ e => e.elim)
      have HZ2 : Hid (w.heap.size ≤ W2.heap.size) := HF'.out.size
      clear h7s h7n hb3 HC4 HC52 HG2 HR' HB2' HF' H5S
      go_wp2_with (first | ((with_reducible show wpList _ _ _ (Oper.mk (some 40) _ _ _ _ _ :: _) _ _); refine wpList_val rfl (exec_loadStr (v := strV w6) rfl rfl HC5.out) ?_) | (go_at_call 46; refine (rnum46_any w6 W3 (HWL.out w6 (by simp))).mono ?_))
      rintro e W4 ⟨⟨K, b10, rfl, h9s, h9n⟩, hb4⟩
      have H9S := Lib.hid h9s
      have H9N := Lib.hid h9n
      have H5 : Hid (∀ ns, rowS wHost 3 [w1, w2, w3, w4] = some ns → b5 = true ∧ W4.ownsRow w.heap.size 3 1 v5 ns.length (ns.map (.int .i64))) := fun ns h => ⟨(H5S3.out ns h).1, ow_below (H5S3.out ns h).2 hb4⟩
      have H7 : Hid (∀ l, unhexW w5 = some l → b8 = true ∧ W4.ownsRow w.heap.size 5 1 v7 l.length (l.map u8c)) := fun l h => ⟨(H7S.out l h).1, own_le (ow_below (H7S.out l h).2 hb4) HZ2.out⟩
      have HR' := Lib.hid (HR.out.keep hb4)
      have HB2' := Lib.hid (HB2.out.keep hb4)
      have HF' : Hid (Fr (fun j => j = br) w W4) := HF.out.step (Fr.below hb4) (fun _ _ e => e.elim)
      clear h9s h9n hb4 HC5 H5S3 H7S HR HB2 HF HWL HZ1 HZ2
      have HR := HR'
      have HB2 := HB2'
      have HF := HF'
      clear HR' HB2' HF'
      have HBAD : Hid (∀ (_ : rowS wHost 3 [w1, w2, w3, w4] = none ∨ unhexW w5 = none ∨ numS w6 = none ∨ (∃ K, numS w6 = some K ∧ K < 0)), hostP (s.drop a) n = (none, n + 1)) := fun h => host_none (line_none (.inr ⟨_, _, HNX.out, hostS_no h⟩))
      cases b5 with
      | false =>
        have HWHY : Hid (rowS wHost 3 [w1, w2, w3, w4] = none) := by
          cases hq : rowS wHost 3 [w1, w2, w3, w4] with
          | none => exact Lib.hid rfl
          | some ns => have := (H5.out ns hq).1; cases this
        go_wp2_with (first | ((with_reducible show wpList _ _ _ (Oper.mk (some 58) _ _ _ _ _ :: _) _ _); refine wpList_val rfl (exec_bld39z rfl) ?_) | ((with_reducible show wpList _ _ _ (Oper.mk none _ _ _ _ _ :: _) _ _); refine wpList_skipped rfl (exec_storeW W37 rfl rfl rfl rfl (encH_one _) HB2.out rfl) ?_))
        exact bodyPost_ret (results_cell2v rfl W37 rfl rfl (Blk.list (Blk.part HB2.out)) (v := .bool false) rfl) rfl (HFAIL.out _ _ _ HR.out HB2.out HF.out HAL.out HNL.out (HBAD.out (.inl HWHY.out)))
      | true =>
        cases b8 with
        | false =>
          have HWHY : Hid (unhexW w5 = none) := by
            cases hq : unhexW w5 with
            | none => exact Lib.hid rfl
            | some ns => have := (H7.out ns hq).1; cases this
          go_wp2_with (first | ((with_reducible show wpList _ _ _ (Oper.mk (some 58) _ _ _ _ _ :: _) _ _); refine wpList_val rfl (exec_bld39z rfl) ?_) | ((with_reducible show wpList _ _ _ (Oper.mk none _ _ _ _ _ :: _) _ _); refine wpList_skipped rfl (exec_storeW W37 rfl rfl rfl rfl (encH_one _) HB2.out rfl) ?_))
          exact bodyPost_ret (results_cell2v rfl W37 rfl rfl (Blk.list (Blk.part HB2.out)) (v := .bool false) rfl) rfl (HFAIL.out _ _ _ HR.out HB2.out HF.out HAL.out HNL.out (HBAD.out (.inr (.inl HWHY.out))))
        | true =>
          cases b10 with
          | false =>
            have HWHY : Hid (numS w6 = none) := by
              cases hq : numS w6 with
              | none => exact Lib.hid rfl
              | some ns => have := (H9S.out ns hq).1; cases this
            go_wp2_with (first | ((with_reducible show wpList _ _ _ (Oper.mk (some 58) _ _ _ _ _ :: _) _ _); refine wpList_val rfl (exec_bld39z rfl) ?_) | ((with_reducible show wpList _ _ _ (Oper.mk none _ _ _ _ _ :: _) _ _); refine wpList_skipped rfl (exec_storeW W37 rfl rfl rfl rfl (encH_one _) HB2.out rfl) ?_))
            exact bodyPost_ret (results_cell2v rfl W37 rfl rfl (Blk.list (Blk.part HB2.out)) (v := .bool false) rfl) rfl (HFAIL.out _ _ _ HR.out HB2.out HF.out HAL.out HNL.out (HBAD.out (.inr (.inr (.inl HWHY.out)))))
          | true =>
            have HK6 : Hid (numS w6 = some K) := by
              cases hq : numS w6 with
              | none => have := H9N.out hq; cases this
              | some k => rw [(H9S.out k hq).2]; exact Lib.hid rfl
            by_cases hk0 : K < 0
            · have HK0 : Hid (K < 0) := hk0
              go_wp2_with (first | ((with_reducible show wpList _ _ _ (Oper.mk (some 58) _ _ _ _ _ :: _) _ _); refine wpList_val rfl (exec_bld39z rfl) ?_) | ((with_reducible show wpList _ _ _ (Oper.mk none _ _ _ _ _ :: _) _ _); refine wpList_skipped rfl (exec_storeW W37 rfl rfl rfl rfl (encH_one _) HB2.out rfl) ?_))
              exact bodyPost_ret (results_cell2v rfl W37 rfl rfl (Blk.list (Blk.part HB2.out)) (v := .bool false) rfl) rfl (HFAIL.out _ _ _ HR.out HB2.out HF.out HAL.out HNL.out (HBAD.out (.inr (.inr (.inr ⟨K, HK6.out, HK0.out⟩)))))
            · obtain ⟨nl, hnl⟩ : ∃ ns, rowS wHost 3 [w1, w2, w3, w4] = some ns := by
                cases hq : rowS wHost 3 [w1, w2, w3, w4] with
                | none => have := H5N.out hq; cases this
                | some ns => exact ⟨ns, rfl⟩
              obtain ⟨D, hD⟩ : ∃ D, unhexW w5 = some D := by
                cases hq : unhexW w5 with
                | none => have := (H7N.out hq).1; cases this
                | some ns => exact ⟨ns, rfl⟩
              obtain ⟨-, p0, p1, p2, rfl, -⟩ := row4.1 hnl
              have hK64 : K ≤ 9223372036854775807 := ((numS_iff.1 HK6.out).1).2
              have HO5 := Lib.hid (H5.out _ hnl).2
              have ho7 := (H7.out _ hD).2
              obtain ⟨oa, oc, out, rfl, ho7', hob, hov⟩ := bytes_out (x := w5) (v := v7) (X := W4) (B := w.heap.size) (Nat.le_refl _) (fun b hb => (H7.out b hb).2) (fun e => by rw [hD] at e; cases e)
              have HO7 := Lib.hid ho7'
              have HOB := Lib.hid hob
              have HOV : Hid (D = bytesOf out) := (hov D hD).symm
              have HHS : Hid (lineP hostS (s.drop a) n = (some (([p0, p1, p2], D, K.toNat), s.drop a1), n + 1)) := line_some HNX.out (hostS_yes hnl hD HK6.out (by omega))
              obtain ⟨g5, c5, rfl, hc5, hc5m, hg5, hcell⟩ := own_cellsV HO5.out (by simp) (by simp)
              have HG5 : Hid (g5 < W4.heap.size) := hg5
              have HC50 : Hid (W4.cell? ⟨g5, 0, none⟩ = some (.int .i64 p0)) := hcell 0 _ rfl
              have HC51 : Hid (W4.cell? ⟨g5, 1, none⟩ = some (.int .i64 p1)) := hcell 1 _ rfl
              have HC52 : Hid (W4.cell? ⟨g5, 2, none⟩ = some (.int .i64 p2)) := hcell 2 _ rfl
              clear hnl hD ho7 ho7' hob hov hcell hg5 H5N H5 H7 H7N H9S H9N HBAD HNX HK6 HO5
              go_upto_region 9 with fail
              refine wp_region_held_drew (S := (fun X => Below W4.heap.size W4 X)) (by kernel_rfl) ((Below.refl _ W4).drew) (fun hHeld => ?_)
              (refine takeW (i := 0) (v := ?_) rfl (by kernel_rfl) (by kernel_rfl) (by kernel_rfl) (fun _ _ _ h => h) (by rfl) (by assumption) ?_ ?_; rotate_left; (intro W hW; (try dsimp only at hW); go_simp; try with_reducible rfl); (try simp only [Act.put, List.setIfInBounds_toArray, List.set_cons_zero, List.set_cons_succ]))
              (refine takeW (i := 1) (v := ?_) rfl (by kernel_rfl) (by kernel_rfl) (by kernel_rfl) (fun _ _ _ h => h) (by rfl) (by assumption) ?_ ?_; rotate_left; (intro W hW; (try dsimp only at hW); go_simp; try with_reducible rfl); (try simp only [Act.put, List.setIfInBounds_toArray, List.set_cons_zero, List.set_cons_succ]))
              (refine takeW (i := 2) rfl (by kernel_rfl) (by kernel_rfl) (by kernel_rfl) (fun _ _ _ h => h) (by rfl) (by assumption) (fun W hW => exec_load1 (v := .int .i64 p0) FL3 rfl rfl (at2 hW HG5.out HC50.out)) ?_; (try simp only [Act.put, List.setIfInBounds_toArray, List.set_cons_zero, List.set_cons_succ]))
              (refine takeW (i := 3) (v := ?_) rfl (by kernel_rfl) (by kernel_rfl) (by kernel_rfl) (fun _ _ _ h => h) (by rfl) (by assumption) ?_ ?_; rotate_left; (intro W hW; (try dsimp only at hW); go_simp; try with_reducible rfl); (try simp only [Act.put, List.setIfInBounds_toArray, List.set_cons_zero, List.set_cons_succ]))
              (refine takeW (i := 4) (v := ?_) rfl (by kernel_rfl) (by kernel_rfl) (by kernel_rfl) (fun _ _ _ h => h) (by rfl) (by assumption) ?_ ?_; rotate_left; (intro W hW; (try dsimp only at hW); go_simp; try with_reducible rfl); (try simp only [Act.put, List.setIfInBounds_toArray, List.set_cons_zero, List.set_cons_succ]))
              (refine takeW (i := 5) rfl (by kernel_rfl) (by kernel_rfl) (by kernel_rfl) (fun _ _ _ h => h) (by rfl) (by assumption) (fun W hW => exec_load1 (v := .int .i64 p1) FL3 rfl rfl (at2 hW HG5.out HC51.out)) ?_; (try simp only [Act.put, List.setIfInBounds_toArray, List.set_cons_zero, List.set_cons_succ]))
              (refine takeW (i := 6) (v := ?_) rfl (by kernel_rfl) (by kernel_rfl) (by kernel_rfl) (fun _ _ _ h => h) (by rfl) (by assumption) ?_ ?_; rotate_left; (intro W hW; (try dsimp only at hW); go_simp; try with_reducible rfl); (try simp only [Act.put, List.setIfInBounds_toArray, List.set_cons_zero, List.set_cons_succ]))
              (refine takeW (i := 7) (v := ?_) rfl (by kernel_rfl) (by kernel_rfl) (by kernel_rfl) (fun _ _ _ h => h) (by rfl) (by assumption) ?_ ?_; rotate_left; (intro W hW; (try dsimp only at hW); go_simp; try with_reducible rfl); (try simp only [Act.put, List.setIfInBounds_toArray, List.set_cons_zero, List.set_cons_succ]))
              (refine takeW (i := 8) rfl (by kernel_rfl) (by kernel_rfl) (by kernel_rfl) (fun _ _ _ h => h) (by rfl) (by assumption) (fun W hW => exec_load1 (v := .int .i64 p2) FL3 rfl rfl (at2 hW HG5.out HC52.out)) ?_; (try simp only [Act.put, List.setIfInBounds_toArray, List.set_cons_zero, List.set_cons_succ]))
              (refine takeW (i := 9) (v := ?_) rfl (by kernel_rfl) (by kernel_rfl) (by kernel_rfl) (fun _ _ _ h => h) (by rfl) (by assumption) ?_ ?_; rotate_left; (intro W hW; (try dsimp only at hW); go_simp; try with_reducible rfl); (try simp only [Act.put, List.setIfInBounds_toArray, List.set_cons_zero, List.set_cons_succ]))
              (refine takeW (i := 10) rfl (by kernel_rfl) (by kernel_rfl) (by kernel_rfl) (fun _ _ _ h => h) (by rfl) (by assumption) (fun W hW => exec_bld39 (oa := oa) (on := out.length) (oc := oc) rfl rfl rfl rfl rfl) ?_; (try simp only [Act.put, List.setIfInBounds_toArray, List.set_cons_zero, List.set_cons_succ]))
              refine takeV (i := 11) rfl (by kernel_rfl) (by rfl) (exec_all39 rfl) ((Below.refl _ _).drew.alloc (Nat.le_refl _) _) ?_
              (try simp only [Act.put, List.setIfInBounds_toArray, List.set_cons_zero, List.set_cons_succ])
              refine takeVs (i := 12) rfl (by kernel_rfl) (by rfl) (exec_storeW W37 rfl rfl rfl rfl (encH_one _) (World.alloc_heap_new _ _) rfl) (by rw [setRow_alloc]; exact (Below.refl _ _).drew.alloc (Nat.le_refl _) _) ?_
              (try simp only [Act.put])
              refine wpAnyH_done (by kernel_rfl) ?_ _
              rw [setRow_alloc]
              clear hHeld
              obtain ⟨zh, hzh⟩ : ∃ zh : Sn, zh = { z0 with hi := p0, lf := p1, wt := p2, oa := oa, on := out.length, oc := oc } := ⟨_, rfl⟩
              obtain ⟨W5, hW5⟩ : ∃ W, W = W4.drew.alloc (.cells (encH { z0 with hi := p0, lf := p1, wt := p2, oa := oa, on := out.length, oc := oc }).toArray 39) := ⟨_, rfl⟩
              obtain ⟨bh, hbh⟩ : ∃ b, b = W4.drew.heap.size := ⟨_, rfl⟩
              rw [← hW5, ← hbh]
              have hbel : Below W4.heap.size W4 W5 := by rw [hW5]; exact (Below.refl _ W4).drew.alloc (Nat.le_refl _) _
              have HBH : Hid (w.heap.size ≤ bh) := by rw [hbh]; exact HF.out.size
              have HBHN : Hid (bh ≠ b2) := by have := HB2.out.lt; show _ ≠ _; rw [hbh]; exact Nat.ne_of_gt this
              have HD0 : Hid (DS br bh b2 s w W5 a1 (n + 1) zh) := ⟨HR.out.keep hbel, by rw [hW5, hbh, hzh]; exact Blk.new' rfl, HB2.out.keep hbel, HF.out.step (Fr.below hbel) (fun _ _ e => e.elim), HAL.out, HNB1.out⟩
              have HO0 : Hid (OwnX w.heap.size W5 ⟨zh, out, []⟩) := ⟨by rw [hzh]; exact ow_below HO7.out hbel, HOB.out, by rw [hzh]; exact ⟨by simp, .inl ⟨rfl, rfl⟩⟩, by simp⟩
              have HZH := Lib.hid hzh
              clear hzh hW5 hbh hbel HO7 HOB HR HB2 HF HC50 HC51 HC52 HG5
              go_wp2
              go_loopw [12] (fun i wr => ∃ (k ak nk : Nat) (y : Sx), i = .int .i64 k ∧ (k : Int) ≤ K ∧ Hid (DS br bh b2 s w wr ak nk y.s) ∧ Hid (OwnX w.heap.size wr y) ∧ Hid (insP k (s.drop a1) (n + 1) = (some (y.ms.map Mx.k, s.drop ak), nk)) ∧ Hid (y.out = out ∧ ∃ ia nn ic, y.s = { zh with ia := ia, nn := nn, ic := ic })) (fun i _ => K.toNat - (intOf i).toNat)
              case atStart => exact ⟨0, a1, n + 1, ⟨zh, out, []⟩, rfl, by omega, HD0, HO0, Lib.hid (by simp [insP]), Lib.hid ⟨rfl, zh.ia, zh.nn, zh.ic, rfl⟩⟩
              case round =>
                clear HD0 HO0
                obtain ⟨k, ak, nk, y, rfl, hkK, HD, HO, HI, HE⟩ := hrel
                obtain ⟨wo, rfl⟩ : ∃ wo : World, wo = wr := ⟨_, rfl⟩
                by_cases hlt : (k : Int) < K
                · have hnk9 : nk ≤ 1000000000 := by have := HD.out.nl; omega
                  have HKL : Hid (y.ms.length ≤ 1000000000) := by
                    have h1 := ins_le HI.out
                    rw [List.length_map, List.length_drop] at h1
                    show _ ≤ _
                    omega
                  go_wp2_with (go_at_call 29; refine (rnext_any br s ak nk wo HD.out.rd hs9 HD.out.al hnk9).mono ?_)
                  rintro e W1 ⟨v, rfl, hg, hcase⟩
                  have HB2 : Hid (Blk W1 b2 39 (encH z0).toArray) := HD.out.res.fr (Fr.grown hg) (fun e => blk_neq HD.out.res HD.out.rd (by decide) e)
                  have HF : Hid (Fr (fun j => j = br) w W1) := HD.out.fr.step (Fr.grown hg) (fun _ _ e => e)
                  have HNO1 : Hid (lineP inS (s.drop ak) nk = (none, nk + 1) → hostP (s.drop a) n = (none, nk + 1)) := fun h => by
                    have h1 := (ins_step HI.out).2 _ h K.toNat (by omega)
                    unfold hostP
                    rw [HHS.out]
                    simp only
                    rw [h1]
                  have HNL : Hid (nk + 1 ≤ 1000000000) := by have := HD.out.nl; show _ ≤ _; omega
                  rcases hcase with ⟨ws, a3, hnx, h12, h2l, how, hr⟩ | ⟨hnx, rfl, hr⟩
                  rotate_left
                  · have HR := Lib.hid hr
                    have HAL : Hid (ak ≤ s.length) := HD.out.al
                    have HNX := Lib.hid hnx
                    clear hr hnx hg
                    go_wp2_with (first | ((with_reducible show wpList _ _ _ (Oper.mk (some 80) _ _ _ _ _ :: _) _ _); refine wpList_val rfl (exec_bld39z rfl) ?_) | ((with_reducible show wpList _ _ _ (Oper.mk none _ _ _ _ _ :: _) _ _); refine wpList_skipped rfl (exec_storeW W37 rfl rfl rfl rfl (encH_one _) HB2.out rfl) ?_))
                    exact bodyPost_ret (results_cell2v rfl W37 rfl rfl (Blk.list (Blk.part HB2.out)) (v := .bool false) rfl) rfl (HFAIL.out _ _ _ HR.out HB2.out HF.out HAL.out HNL.out (HNO1.out (line_none (.inl HNX.out))))
                  · have HR := Lib.hid hr
                    have HAL : Hid (a3 ≤ s.length) := h2l
                    have HNX := Lib.hid hnx
                    have HD1 := Lib.hid (HD.out.next hg hr h12 h2l)
                    have HO1 := Lib.hid (HO.out.fr (Fr.grown hg) (fun j e => blkF HD.out.rd (by decide) (by decide) e))
                    have HOWS := Lib.hid (own_le how HD.out.fr.size)
                    obtain ⟨va, vc, rfl, hc3, hcm3, -⟩ := owns_shape how
                    clear hr hnx hg how h12 h2l HD HO
                    by_cases h3 : ws.length = 3
                    rotate_left
                    · have h3b : ((ws.length : Int) != 3) = true := by simp; omega
                      have h3c : ((ws.length : Int) == 3) = false := by simp; omega
                      have HNO := Lib.hid (inS_len h3)
                      clear h3
                      go_wp2_with (first | ((with_reducible show wpList _ _ _ (Oper.mk (some 80) _ _ _ _ _ :: _) _ _); refine wpList_val rfl (exec_bld39z rfl) ?_) | ((with_reducible show wpList _ _ _ (Oper.mk none _ _ _ _ _ :: _) _ _); refine wpList_skipped rfl (exec_storeW W37 rfl rfl rfl rfl (encH_one _) HB2.out rfl) ?_))
                      exact bodyPost_ret (results_cell2v rfl W37 rfl rfl (Blk.list (Blk.part HB2.out)) (v := .bool false) rfl) rfl (HFAIL.out _ _ _ HR.out HB2.out HF.out HAL.out HNL.out (HNO1.out (line_none (.inr ⟨_, _, HNX.out, HNO.out⟩))))
                    · obtain ⟨x1, x2, x3, rfl⟩ := list3 h3
                      have hc3' : 3 ≤ vc := hc3
                      have hln := next_len HNX.out
                      have HWL : Hid (∀ x ∈ [x1, x2, x3], x.length ≤ 1000000000) := fun x hx => by have := hln.1 x hx; rw [List.length_drop] at this; omega
                      obtain ⟨g1, c1, e1, -, -, hg1, hcell⟩ := own_cellsV (xs := [strV x1, strV x2, strV x3]) HOWS.out (by simp) rfl
                      simp only [Value.slice.injEq] at e1
                      obtain ⟨rfl, -, rfl⟩ := e1
                      have HC71 : Hid (W1.cell? ⟨g1, 2, none⟩ = some (strV x3)) := hcell 2 _ rfl
                      have HG1 : Hid (g1 < W1.heap.size) := hg1
                      have HLV : Hid (Wds W1 (.slice (some ⟨g1, 0, none⟩) 3 vc) [x1, x2, x3]) := Rd.of_owns (enc := encT) (size := 1) encT_len (l := [x1, x2, x3]) HOWS.out (by simp)
                      have HLT : Hid (Wds W1 (.slice (some ⟨g1, 0, none⟩) 2 vc) [x1, x2]) := wds_take HLV.out 2 (by simp)
                      clear h3 hc3 hcell hg1 hln HLV HOWS
                      have hc3 := hc3'
                      clear hc3'
                      go_wp2_with (first | ((with_reducible show wpList _ _ _ (Oper.mk (some 83) _ _ _ _ _ :: _) _ _); refine wpList_val rfl (exec_head 2 (by omega) hc3 hcm3 (by omega) rfl rfl) ?_) | (go_at_call 28; refine (row28_any wIn 1 [x1, x2] _ W1 HLT.out (fun x hx => HWL.out x (List.mem_of_mem_take (i := 2) (l := [x1, x2, x3]) hx)) (by decide)).mono ?_))
                      rintro e W2 ⟨⟨v14, b15, rfl, h5s, h5n⟩, hb2⟩
                      have H5S := Lib.hid h5s
                      have H5N := Lib.hid h5n
                      have HC7 : Hid (W2.cell? ⟨g1, 2, none⟩ = some (strV x3)) := (hb2.cell HG1.out).trans HC71.out
                      have HD2 := Lib.hid (HD1.out.below hb2)
                      have HO2 := Lib.hid (HO1.out.below hb2)
                      have HZ1 : Hid (w.heap.size ≤ W1.heap.size) := HF.out.size
                      clear h5s h5n hb2 HC71 HG1 HLT HR HB2 HF HD1 HO1
                      go_wp2_with (first | ((with_reducible show wpList _ _ _ (Oper.mk (some 90) _ _ _ _ _ :: _) _ _); refine wpList_val rfl (exec_loadStr (v := strV x3) rfl rfl HC7.out) ?_) | (go_at_call 48; refine (bytes48_any x3 W2 (HWL.out x3 (by simp))).mono ?_))
                      rintro e W3 ⟨⟨v16, b17, rfl, h7s, h7n⟩, hb3⟩
                      have H7 : Hid (∀ l, unhexW x3 = some l → b17 = true ∧ W3.ownsRow w.heap.size 5 1 v16 l.length (l.map u8c)) := fun l h => ⟨(h7s l h).1, own_le (h7s l h).2 HD2.out.fr.size⟩
                      have H7N := Lib.hid h7n
                      have H5 : Hid (∀ ns, rowS wIn 1 [x1, x2] = some ns → b15 = true ∧ W3.ownsRow w.heap.size 3 1 v14 ns.length (ns.map (.int .i64))) := fun ns h => ⟨(H5S.out ns h).1, own_le (ow_below (H5S.out ns h).2 hb3) HZ1.out⟩
                      have HD3 := Lib.hid (HD2.out.below hb3)
                      have HO3 := Lib.hid (HO2.out.below hb3)
                      have HR : Hid (Blk W3 br 56 (rfC s a3 (nk + 1)).toArray) := HD3.out.rd
                      have HB2 : Hid (Blk W3 b2 39 (encH z0).toArray) := HD3.out.res
                      have HF : Hid (Fr (fun j => j = br) w W3) := HD3.out.fr
                      clear h7s h7n hb3 HC7 HD2 HO2 HZ1 H5S HWL
                      cases b15 with
                      | false =>
                        have HWHY : Hid (rowS wIn 1 [x1, x2] = none) := by
                          cases hq : rowS wIn 1 [x1, x2] with
                          | none => exact Lib.hid rfl
                          | some ns => have := (H5.out ns hq).1; cases this
                        go_wp2_with (first | ((with_reducible show wpList _ _ _ (Oper.mk (some 100) _ _ _ _ _ :: _) _ _); refine wpList_val rfl (exec_bld39z rfl) ?_) | ((with_reducible show wpList _ _ _ (Oper.mk none _ _ _ _ _ :: _) _ _); refine wpList_skipped rfl (exec_storeW W37 rfl rfl rfl rfl (encH_one _) HB2.out rfl) ?_))
                        exact bodyPost_ret (results_cell2v rfl W37 rfl rfl (Blk.list (Blk.part HB2.out)) (v := .bool false) rfl) rfl (HFAIL.out _ _ _ HR.out HB2.out HF.out HAL.out HNL.out (HNO1.out (line_none (.inr ⟨_, _, HNX.out, inS_no (.inl HWHY.out)⟩))))
                      | true =>
                        cases b17 with
                        | false =>
                          have HWHY : Hid (unhexW x3 = none) := by
                            cases hq : unhexW x3 with
                            | none => exact Lib.hid rfl
                            | some ns => have := (H7.out ns hq).1; cases this
                          go_wp2_with (first | ((with_reducible show wpList _ _ _ (Oper.mk (some 100) _ _ _ _ _ :: _) _ _); refine wpList_val rfl (exec_bld39z rfl) ?_) | ((with_reducible show wpList _ _ _ (Oper.mk none _ _ _ _ _ :: _) _ _); refine wpList_skipped rfl (exec_storeW W37 rfl rfl rfl rfl (encH_one _) HB2.out rfl) ?_))
                          exact bodyPost_ret (results_cell2v rfl W37 rfl rfl (Blk.list (Blk.part HB2.out)) (v := .bool false) rfl) rfl (HFAIL.out _ _ _ HR.out HB2.out HF.out HAL.out HNL.out (HNO1.out (line_none (.inr ⟨_, _, HNX.out, inS_no (.inr HWHY.out)⟩))))
                        | true =>
                          obtain ⟨nl, hnl⟩ : ∃ ns, rowS wIn 1 [x1, x2] = some ns := by
                            cases hq : rowS wIn 1 [x1, x2] with
                            | none => have := H5N.out hq; cases this
                            | some ns => exact ⟨ns, rfl⟩
                          obtain ⟨D2, hD2⟩ : ∃ D, unhexW x3 = some D := by
                            cases hq : unhexW x3 with
                            | none => have := (H7N.out hq).1; cases this
                            | some ns => exact ⟨ns, rfl⟩
                          obtain ⟨-, age, rfl, -⟩ := row2.1 hnl
                          have hn14 := (H5.out _ hnl).2
                          obtain ⟨da, dc, dl, rfl, ho7', hob, hov⟩ := bytes_out (x := x3) (v := v16) (X := W3) (B := w.heap.size) (Nat.le_refl _) (fun b hb => (H7.out b hb).2) (fun e => by rw [hD2] at e; cases e)
                          obtain ⟨m, hm⟩ : ∃ m : Mx, m = ⟨⟨da, dc, dl⟩, age⟩ := ⟨_, rfl⟩
                          have hmv : m.d.v = .slice da dl.length dc := by rw [hm]; rfl
                          have hma : m.age = age := by rw [hm]
                          rw [← hma] at hn14 hnl
                          rw [← hmv]
                          have HMK : Hid (m.k = (m.age, D2)) := by rw [hm]; exact Lib.hid (by unfold Mx.k; simp only; rw [hov D2 hD2])
                          have HINS : Hid (insP (k + 1) (s.drop a1) (n + 1) = (some ((y.ms ++ [m]).map Mx.k, s.drop a3), nk + 1)) := by
                            have h1 := (ins_step HI.out).1 _ _ _ (line_some HNX.out (inS_yes hnl hD2) : lineP inS (s.drop ak) nk = (some ((m.age, D2), s.drop a3), nk + 1))
                            rw [← HMK.out] at h1
                            exact Lib.hid (by rw [h1]; simp)
                          obtain ⟨g14, c14, rfl, -⟩ := own_cellsV (xs := [.int .i64 m.age]) hn14 (by simp) rfl
                          have HN14 : Hid (W3.drew.ownsRow w.heap.size 3 1 (.slice (some ⟨g14, 0, none⟩) 1 c14) 1 [.int .i64 m.age]) := ow_below hn14 (Below.refl _ _).drew
                          have HMD : Hid (W3.drew.ownsRow w.heap.size 5 1 m.d.v m.d.l.length (m.d.l.map (Value.int .u8)) ∧ (∀ c ∈ m.d.l, 0 ≤ c ∧ c ≤ 255)) := by rw [hm]; exact ⟨ow_below ho7' (Below.refl _ _).drew, hob⟩
                          have HDC := Lib.hid (HD3.out.below ((Below.refl _ W3).drew))
                          have HOC := Lib.hid (HO3.out.below ((Below.refl _ W3).drew))
                          have HWC : Hid (w.heap.size ≤ W3.drew.heap.size) := HDC.out.fr.size
                          have HOWI : Hid ((W3.drew.alloc (.cells (encMx m).toArray 49)).ownsRow w.heap.size 49 2 (.slice y.s.ia y.s.nn y.s.ic) y.ms.length (y.ms.flatMap encMx)) := ow_below HOC.out.inn (below1 _ _)
                          have HSAME : Hid (∀ (a9 : Option Addr) (n9 c9 : Nat), y.out = out ∧ ∃ ia nn ic, { y.s with ia := a9, nn := n9, ic := c9 } = { zh with ia := ia, nn := nn, ic := ic }) := fun a9 n9 c9 => by
                            obtain ⟨e1, i1, i2, i3, e2⟩ := HE.out
                            exact ⟨e1, a9, n9, c9, by rw [e2]⟩
                          clear hnl hD2 hn14 ho7' hob hov hm hmv hma H5 H5N H7 H7N HMK HNX HNO1 HI HE HD3 HO3 HR HB2 HF
                          go_upto_region 20 with fail
                          refine wp_region_held_drew (S := (fun X : World => X.ownsRow w.heap.size 3 1 (.slice (some ⟨g14, 0, none⟩) 1 c14) 1 [.int .i64 m.age])) (by kernel_rfl) HN14.out (fun hHeld => ?_)
                          (refine takeW (i := 0) (v := ?_) rfl (by kernel_rfl) (by kernel_rfl) (by kernel_rfl) (fun _ _ _ h => h) (by rfl) (by assumption) ?_ ?_; rotate_left; (intro W hW; (try dsimp only at hW); go_simp; try with_reducible rfl); (try simp only [Act.put, List.setIfInBounds_toArray, List.set_cons_zero, List.set_cons_succ]))
                          (refine takeW (i := 2) (v := ?_) rfl (by kernel_rfl) (by kernel_rfl) (by kernel_rfl) (fun _ _ _ h => h) (by rfl) (by assumption) ?_ ?_; rotate_left; (intro W hW; (try dsimp only at hW); go_simp; try with_reducible rfl); (try simp only [Act.put, List.setIfInBounds_toArray, List.set_cons_zero, List.set_cons_succ]))
                          (refine takeW (i := 3) (v := ?_) rfl (by kernel_rfl) (by kernel_rfl) (by kernel_rfl) (fun _ _ _ h => h) (by rfl) (by assumption) ?_ ?_; rotate_left; (intro W hW; (try dsimp only at hW); go_simp; try with_reducible rfl); (try simp only [Act.put, List.setIfInBounds_toArray, List.set_cons_zero, List.set_cons_succ]))
                          (refine takeW (i := 4) rfl (by kernel_rfl) (by kernel_rfl) (by kernel_rfl) (fun _ _ _ h => h) (by rfl) (by assumption) (fun W hW => exec_load1 (v := .int .i64 m.age) FL3 rfl rfl (own_cell0 hW)) ?_; (try simp only [Act.put, List.setIfInBounds_toArray, List.set_cons_zero, List.set_cons_succ]))
                          (refine takeW (i := 5) (v := ?_) rfl (by kernel_rfl) (by kernel_rfl) (by kernel_rfl) (fun _ _ _ h => h) (by rfl) (by assumption) ?_ ?_; rotate_left; (intro W hW; (try dsimp only at hW); go_simp; try with_reducible rfl); (try simp only [Act.put, List.setIfInBounds_toArray, List.set_cons_zero, List.set_cons_succ]))
                          (refine takeW (i := 6) rfl (by kernel_rfl) (by kernel_rfl) (by kernel_rfl) (fun _ _ _ h => h) (by rfl) (by assumption) (fun W hW => exec_bld49 (m := m) rfl rfl rfl) ?_; (try simp only [Act.put, List.setIfInBounds_toArray, List.set_cons_zero, List.set_cons_succ]))
                          refine takeV2 (i := 1) (j := 7) rfl rfl (by kernel_rfl) (by rfl) (by rfl) (exec_load1 (v := .slice y.s.ia y.s.nn y.s.ic) F37 rfl rfl (HDC.out.hb.list0 rfl)) HN14.out (exec_sliceW E37 (by decide) rfl rfl rfl) (ow_below HN14.out (below1 _ _)) ?_ ?_
                          all_goals clear hHeld
                          · (try simp only [Act.put, List.setIfInBounds_toArray, List.set_cons_zero, List.set_cons_succ])
                            refine takeV (i := 7) rfl (by kernel_rfl) (by rfl) (exec_sliceW E37 (by decide) rfl rfl rfl) (ow_below HN14.out (below1 _ _)) ?_
                            (try simp only [Act.put, List.setIfInBounds_toArray, List.set_cons_zero, List.set_cons_succ])
                            refine takeApp (i := 8) (m := 1) E37 rfl (by kernel_rfl) (by rfl) rfl (HOWI.out) (news := encMx m) rfl (news_wide _ _ _) (encM_one _) rfl rfl (by have := HKL.out; omega) (by have := HWC.out; simp at this ⊢; omega) ?_
                            intro v9 W9 ho9 hg9 hpl
                            obtain ⟨a9, c9, rfl, -⟩ := owns_shape ho9
                            have HS9 : Hid (DS br bh b2 s w W9 a3 (nk + 1) y.s) := (HDC.out.below (below1 _ _)).app HOWI.out hg9
                            have HO9 := Lib.hid ho9
                            have HG9 := Lib.hid hg9
                            have HN9 : Hid (W9.ownsRow w.heap.size 3 1 (.slice (some ⟨g14, 0, none⟩) 1 c14) 1 [.int .i64 m.age]) := own_fr (ow_below HN14.out (below1 _ _)) (Fr.grownO hg9) (fun g hg e => own_own (ow_below HN14.out (below1 _ _)) HOWI.out (by decide) g hg e)
                            clear ho9 hg9 hpl
                            refine ⟨HN9.out, ?_⟩
                            (try simp only [Act.put, List.setIfInBounds_toArray, List.set_cons_zero, List.set_cons_succ])
                            have hHeld : (fun X : World => X.ownsRow w.heap.size 3 1 (.slice (some ⟨g14, 0, none⟩) 1 c14) 1 [.int .i64 m.age]) W9 := HN9.out
                            (refine takeW (i := 9) (v := ?_) rfl (by kernel_rfl) (by kernel_rfl) (by kernel_rfl) (fun _ _ _ h => h) (by rfl) (by assumption) ?_ ?_; rotate_left; (intro W hW; (try dsimp only at hW); go_simp; try with_reducible rfl); (try simp only [Act.put, List.setIfInBounds_toArray, List.set_cons_zero, List.set_cons_succ]))
                            clear hHeld
                            refine takeVs (i := 10) rfl (by kernel_rfl) (by rfl) (exec_store1 F37 rfl rfl rfl rfl rfl (HS9.out.hb.list0 rfl) (HS9.out.hb.frozen 2)) (own_fr HN9.out (Fr.setCell _ _ _) (fun g hg e => own_apart HN9.out HS9.out.hb (by decide) g hg e)) ?_
                            (try simp only [Act.put])
                            refine wpAnyH_done (by kernel_rfl) ?_ _
                            have HSN := Lib.hid (HS9.out.setIn HBH.out HBHN.out a9 (y.ms.length + 1) c9)
                            have HON : Hid (OwnX w.heap.size (W9.setCell ⟨bh, 2, none⟩ (.slice a9 (y.ms.length + 1) c9)) ⟨{ y.s with ia := a9, nn := y.ms.length + 1, ic := c9 }, y.out, y.ms ++ [m]⟩) :=
                              ((HOC.out.below (below1 _ _)).add HG9.out HO9.out ⟨ow_below HMD.out.1 (below1 _ _), HMD.out.2⟩).fr (Fr.setCell _ _ _) (fun j e => blkF HS9.out.hb (by decide) (by decide) e)
                            clear HS9 HO9 HG9 HN9 HDC HOC HMD HOWI HN14
                            go_wp2
                            go_roundw
                            case rel => exact ⟨k + 1, a3, nk + 1, ⟨{ y.s with ia := a9, nn := y.ms.length + 1, ic := c9 }, y.out, y.ms ++ [m]⟩, by go_num, by omega, HSN, HON, HINS, Lib.hid (HSAME.out _ _ _)⟩
                            case measure => simp [intOf]; omega
                          · (try simp only [Act.put, List.setIfInBounds_toArray, List.set_cons_zero, List.set_cons_succ])
                            refine takeV (i := 1) rfl (by kernel_rfl) (by rfl) (exec_load1 (v := .slice y.s.ia y.s.nn y.s.ic) F37 rfl rfl ((HDC.out.hb.alloc _).list0 rfl)) (ow_below HN14.out (below1 _ _)) ?_
                            (try simp only [Act.put, List.setIfInBounds_toArray, List.set_cons_zero, List.set_cons_succ])
                            refine takeApp (i := 8) (m := 1) E37 rfl (by kernel_rfl) (by rfl) rfl (HOWI.out) (news := encMx m) rfl (news_wide _ _ _) (encM_one _) rfl rfl (by have := HKL.out; omega) (by have := HWC.out; simp at this ⊢; omega) ?_
                            intro v9 W9 ho9 hg9 hpl
                            obtain ⟨a9, c9, rfl, -⟩ := owns_shape ho9
                            have HS9 : Hid (DS br bh b2 s w W9 a3 (nk + 1) y.s) := (HDC.out.below (below1 _ _)).app HOWI.out hg9
                            have HO9 := Lib.hid ho9
                            have HG9 := Lib.hid hg9
                            have HN9 : Hid (W9.ownsRow w.heap.size 3 1 (.slice (some ⟨g14, 0, none⟩) 1 c14) 1 [.int .i64 m.age]) := own_fr (ow_below HN14.out (below1 _ _)) (Fr.grownO hg9) (fun g hg e => own_own (ow_below HN14.out (below1 _ _)) HOWI.out (by decide) g hg e)
                            clear ho9 hg9 hpl
                            refine ⟨HN9.out, ?_⟩
                            (try simp only [Act.put, List.setIfInBounds_toArray, List.set_cons_zero, List.set_cons_succ])
                            have hHeld : (fun X : World => X.ownsRow w.heap.size 3 1 (.slice (some ⟨g14, 0, none⟩) 1 c14) 1 [.int .i64 m.age]) W9 := HN9.out
                            (refine takeW (i := 9) (v := ?_) rfl (by kernel_rfl) (by kernel_rfl) (by kernel_rfl) (fun _ _ _ h => h) (by rfl) (by assumption) ?_ ?_; rotate_left; (intro W hW; (try dsimp only at hW); go_simp; try with_reducible rfl); (try simp only [Act.put, List.setIfInBounds_toArray, List.set_cons_zero, List.set_cons_succ]))
                            clear hHeld
                            refine takeVs (i := 10) rfl (by kernel_rfl) (by rfl) (exec_store1 F37 rfl rfl rfl rfl rfl (HS9.out.hb.list0 rfl) (HS9.out.hb.frozen 2)) (own_fr HN9.out (Fr.setCell _ _ _) (fun g hg e => own_apart HN9.out HS9.out.hb (by decide) g hg e)) ?_
                            (try simp only [Act.put])
                            refine wpAnyH_done (by kernel_rfl) ?_ _
                            have HSN := Lib.hid (HS9.out.setIn HBH.out HBHN.out a9 (y.ms.length + 1) c9)
                            have HON : Hid (OwnX w.heap.size (W9.setCell ⟨bh, 2, none⟩ (.slice a9 (y.ms.length + 1) c9)) ⟨{ y.s with ia := a9, nn := y.ms.length + 1, ic := c9 }, y.out, y.ms ++ [m]⟩) :=
                              ((HOC.out.below (below1 _ _)).add HG9.out HO9.out ⟨ow_below HMD.out.1 (below1 _ _), HMD.out.2⟩).fr (Fr.setCell _ _ _) (fun j e => blkF HS9.out.hb (by decide) (by decide) e)
                            clear HS9 HO9 HG9 HN9 HDC HOC HMD HOWI HN14
                            go_wp2
                            go_roundw
                            case rel => exact ⟨k + 1, a3, nk + 1, ⟨{ y.s with ia := a9, nn := y.ms.length + 1, ic := c9 }, y.out, y.ms ++ [m]⟩, by go_num, by omega, HSN, HON, HINS, Lib.hid (HSAME.out _ _ _)⟩
                            case measure => simp [intOf]; omega
                · have HQ : Hid (hostP (s.drop a) n = (some (([p0, p1, p2], D, y.ms.map Mx.k), s.drop ak), nk)) := by
                    show _ = _
                    unfold hostP
                    rw [HHS.out]
                    simp only
                    rw [show K.toNat = k by omega, HI.out]
                  have HY : Hid (([p0, p1, p2], D, y.ms.map Mx.k) = ([y.s.hi, y.s.lf, y.s.wt], bytesOf y.out, y.ms.map Mx.k)) := by
                    obtain ⟨e1, i1, i2, i3, e2⟩ := HE.out
                    show _ = _
                    rw [HOV.out, e1, e2, HZH.out]
                  go_wp2_with (first | ((with_reducible show wpList _ _ _ (Oper.mk (some 111) _ _ _ _ _ :: _) _ _); refine wpList_loadW W37 rfl rfl (x := .tmp 11) rfl (encH y.s) rfl (Blk.list HD.out.hb) ?_) | ((with_reducible show wpList _ _ _ (Oper.mk none _ _ _ _ _ :: _) _ _); refine wpList_skipped rfl (exec_storeW W37 rfl rfl rfl rfl (encH_one _) HD.out.res rfl) ?_))
                  exact bodyPost_ret (results_cell2v rfl W37 rfl rfl (Blk.list (Blk.part HD.out.res)) (v := .bool true) rfl) rfl (HGOOD.out _ nk ak y _ HD.out.rd HD.out.res HD.out.fr HD.out.al HD.out.nl HO.out HQ.out HY.out)
end Go.Proofs.YtjaaldeaknmmbaaDoor
