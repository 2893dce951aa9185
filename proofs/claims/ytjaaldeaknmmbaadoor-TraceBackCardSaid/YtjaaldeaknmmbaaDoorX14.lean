/- The document's snap: plain laws, and what its steps keep. The document's snap. -/
import Derived.Test.YtjaaldeaknmmbaaDoorX12
namespace Go.Proofs.YtjaaldeaknmmbaaDoor
open Go.RowKit Go.Shelf

def snapP4 (a c v : List Int) (r : List UInt8) (n : Nat) : Option (Sk × List UInt8) × Nat := match hostP r n with
  | (none, n) => (none, n)
  | (some ((h, o, ms), r), n) => ((mkS a c v h o ms).map fun x => (x, r), n)
def snapP3 (a c : List Int) (r : List UInt8) (n : Nat) : Option (Sk × List UInt8) × Nat := match lineP (rowS wView 7) r n with
  | (none, n) => (none, n)
  | (some (v, r), n) => snapP4 a c v r n
def snapP2 (a : List Int) (r : List UInt8) (n : Nat) : Option (Sk × List UInt8) × Nat := match lineP (rowS wState 5) r n with
  | (none, n) => (none, n)
  | (some (c, r), n) => snapP3 a c r n
theorem snapP_2 (r : List UInt8) (n : Nat) : snapP r n = match lineP snapS r n with
  | (none, n) => (none, n)
  | (some (a, r), n) => snapP2 a r n := by
  unfold snapP snapP2 snapP3 snapP4 hostP
  generalize lineP snapS r n = o1
  rcases o1 with ⟨_ | ⟨a, r1⟩, n1⟩
  · rfl
  simp only
  generalize lineP (rowS wState 5) r1 n1 = o2
  rcases o2 with ⟨_ | ⟨c, r2⟩, n2⟩
  · rfl
  simp only
  generalize lineP (rowS wView 7) r2 n2 = o3
  rcases o3 with ⟨_ | ⟨v, r3⟩, n3⟩
  · rfl
  simp only
  generalize lineP hostS r3 n3 = o4
  rcases o4 with ⟨_ | ⟨⟨h, o, k⟩, r4⟩, n4⟩
  · rfl
  simp only
  generalize insP k r4 n4 = o5
  rcases o5 with ⟨_ | ⟨ms, r5⟩, n5⟩
  · rfl
  rfl
theorem snapS_no {ws : List (List UInt8)} (h : rowS wSnap 6 ws = none) : snapS ws = none := by unfold snapS; rw [h]
theorem snapS_no2 {ws : List (List UInt8)} {a : List Int} (h : rowS wSnap 6 ws = some a) (h1 : a[4]? ≠ some 0) (h2 : a[4]? ≠ some 1) : snapS ws = none := by
  unfold snapS; rw [h]; simp only; rw [if_neg (by rintro (h | h) <;> contradiction)]
theorem snapS_yes {ws : List (List UInt8)} {a : List Int} (h : rowS wSnap 6 ws = some a) (h1 : a[4]? = some 0 ∨ a[4]? = some 1) : snapS ws = some a := by
  unfold snapS; rw [h]; simp only; rw [if_pos h1]
theorem rowS_nil (first : List UInt8) (k : Nat) : rowS first k [] = none := by unfold rowS; simp
/-- The next line's words, found or not. -/
theorem nextu {br : Nat} {s : List UInt8} {a n : Nat} {w W : World} {e : Ending} (h : NextPost br s a n w e W) (ha : a ≤ s.length) (hl : s.length ≤ 1000000000) : ∃ v ws a', e = .returned v ∧ w.grownBy W (some br) ∧ Wds W v ws ∧ (∀ x ∈ ws, x.length ≤ 1000000000) ∧ Blk W br 56 (rfC s a' (n + 1)).toArray ∧ a' ≤ s.length ∧ a ≤ a' ∧
    (∀ {α : Type} (f : List (List UInt8) → Option α), f [] = none → lineP f (s.drop a) n = ((f ws).map fun x => (x, s.drop a'), n + 1)) ∧ (ws ≠ [] → a < a') := by
  obtain ⟨v, rfl, hg, ⟨ws, a2, hnx, h12, h2l, how, hr⟩ | ⟨hnx, rfl, hr⟩⟩ := h
  · have hln := next_len hnx
    refine ⟨v, ws, a2, rfl, hg, Rd.of_owns (enc := encT) (size := 1) encT_len (by rw [encT_flat]; exact how) ?_, fun x hx => by have := hln.1 x hx; rw [List.length_drop] at this; omega, hr, h2l, by omega, fun f _ => ?_, fun _ => h12⟩
    · have h1 := nextW_some hnx
      have h2 : ∀ l : List (List UInt8), l.length ≤ (joinB 32 l).length + 1 := fun l => by
        induction l with
        | nil => simp
        | cons x l ih =>
          cases l with
          | nil => simp
          | cons y r =>
            show _ ≤ (x ++ 32 :: joinB 32 (y :: r)).length + 1
            simp only [List.length_append, List.length_cons] at ih ⊢
            omega
      have := h2 ws
      simp only at h1
      rw [List.length_drop] at h1
      omega
    · unfold lineP; rw [hnx]
  · exact ⟨_, [], a, rfl, hg, Rd.nil _, by simp, hr, ha, Nat.le_refl _, fun f hf => by unfold lineP; rw [hnx, hf]; rfl, fun h => absurd rfl h⟩
theorem own_at {W : World} {B : Nat} {e : TypeId} {g n c m j : Nat} {u : Value} {xs : List Value} (h : W.ownsRow B e 1 (.slice (some ⟨g, 0, none⟩) n c) m xs) (hj : xs[j]? = some u) : W.cell? ⟨g, j, none⟩ = some u := by
  rcases h.2 with ⟨e0, _⟩ | ⟨g', cap', cur', e0, hb, hh, h1, h2, h3, h4⟩
  · cases e0
  · simp only [Value.slice.injEq, Option.some.injEq, Addr.mk.injEq, and_true] at e0
    obtain ⟨rfl, -, -⟩ := e0
    rw [Lib.cell_of_heap hh]
    have e2 : (cur'.toList.take (m * 1))[j]? = some u := by rw [h4]; exact hj
    rw [List.getElem?_take] at e2
    split at e2
    · simpa using e2
    · cases e2
theorem exec_bld41 {w : World} {o : Oper} {a : Act} {X0 X1 X4 X5 X6 X7 : Operand} {q1 q2 q3 q5 : Int} {b : Bool} {y : Sn} (ho : o.op = .build 41 #[(0, X0), (1, X1), (4, X4), (5, X5), (6, X6), (7, X7)]) (h0 : a.eval X0 = .int .i64 q1) (h1 : a.eval X1 = .int .i64 q2) (h4 : a.eval X4 = .int .i64 q3) (h5 : a.eval X5 = .bool b) (h6 : a.eval X6 = .int .i64 q5) (h7 : a.eval X7 = .agg (encH y).toArray) :
    (execOp a.eval o).run Tryd.prog w = .ok (.value (.agg (encN ⟨0, q1, q2, 0, 0, 0, 0, 0, 0, 0, 0, 0, 0, 0, 0, q3, b, q5, y.hi, y.oa, y.on, y.oc, y.ia, y.nn, y.ic, y.lf, y.wt⟩).toArray)) w := by
  have hb : Tryd.prog.built 41 #[(0, Value.int .i64 q1), (1, .int .i64 q2), (4, .int .i64 q3), (5, .bool b), (6, .int .i64 q5), (7, .agg (encH y).toArray)].toList = some (encN ⟨0, q1, q2, 0, 0, 0, 0, 0, 0, 0, 0, 0, 0, 0, 0, q3, b, q5, y.hi, y.oa, y.on, y.oc, y.ia, y.nn, y.ic, y.lf, y.wt⟩).toArray := by kernel_rfl
  simp [execOp, ho, h0, h1, h4, h5, h6, h7, run_build w 41 #[(0, Value.int .i64 q1), (1, .int .i64 q2), (4, .int .i64 q3), (5, .bool b), (6, .int .i64 q5), (7, .agg (encH y).toArray)] _ hb, Result.andThen]
theorem exec_all41 {w : World} {o : Oper} {a : Act} (ho : o.op = .alloc 41) : (execOp a.eval o).run Tryd.prog w = .ok (.value (.pointer (some ⟨w.heap.size, 0, none⟩))) (w.alloc (.cells (encN z0).toArray 41)) := by
  generalize a.eval = ev at *
  unfold execOp
  simp only [ho]
  go_simp
  try rfl
theorem exec_bld33 {w : World} {o : Oper} {a : Act} {X0 X1 X2 X3 X4 : Operand} {t1 t2 t3 t4 t5 : Int} (ho : o.op = .build 33 #[(0, X0), (1, X1), (2, X2), (3, X3), (4, X4)]) (h0 : a.eval X0 = .int .i64 t1) (h1 : a.eval X1 = .int .i64 t2) (h2 : a.eval X2 = .int .i64 t3) (h3 : a.eval X3 = .int .i64 t4) (h4 : a.eval X4 = .int .i64 t5) :
    (execOp a.eval o).run Tryd.prog w = .ok (.value (.agg ([.int .i64 t1, .int .i64 t2, .int .i64 t3, .int .i64 t4, .int .i64 t5] : List Value).toArray)) w := by
  have hb : Tryd.prog.built 33 #[(0, Value.int .i64 t1), (1, .int .i64 t2), (2, .int .i64 t3), (3, .int .i64 t4), (4, .int .i64 t5)].toList = some ([.int .i64 t1, .int .i64 t2, .int .i64 t3, .int .i64 t4, .int .i64 t5] : List Value).toArray := by kernel_rfl
  simp [execOp, ho, h0, h1, h2, h3, h4, run_build w 33 #[(0, Value.int .i64 t1), (1, .int .i64 t2), (2, .int .i64 t3), (3, .int .i64 t4), (4, .int .i64 t5)] _ hb, Result.andThen]
theorem exec_bld35 {w : World} {o : Oper} {a : Act} {X0 X1 X2 X3 X4 X5 X6 : Operand} {t1 t2 t3 t4 t5 t6 t7 : Int} (ho : o.op = .build 35 #[(0, X0), (1, X1), (2, X2), (3, X3), (4, X4), (5, X5), (6, X6)]) (h0 : a.eval X0 = .int .i64 t1) (h1 : a.eval X1 = .int .i64 t2) (h2 : a.eval X2 = .int .i64 t3) (h3 : a.eval X3 = .int .i64 t4) (h4 : a.eval X4 = .int .i64 t5) (h5 : a.eval X5 = .int .i64 t6) (h6 : a.eval X6 = .int .i64 t7) :
    (execOp a.eval o).run Tryd.prog w = .ok (.value (.agg ([.int .i64 t1, .int .i64 t2, .int .i64 t3, .int .i64 t4, .int .i64 t5, .int .i64 t6, .int .i64 t7] : List Value).toArray)) w := by
  have hb : Tryd.prog.built 35 #[(0, Value.int .i64 t1), (1, .int .i64 t2), (2, .int .i64 t3), (3, .int .i64 t4), (4, .int .i64 t5), (5, .int .i64 t6), (6, .int .i64 t7)].toList = some ([.int .i64 t1, .int .i64 t2, .int .i64 t3, .int .i64 t4, .int .i64 t5, .int .i64 t6, .int .i64 t7] : List Value).toArray := by kernel_rfl
  simp [execOp, ho, h0, h1, h2, h3, h4, h5, h6, run_build w 35 #[(0, Value.int .i64 t1), (1, .int .i64 t2), (2, .int .i64 t3), (3, .int .i64 t4), (4, .int .i64 t5), (5, .int .i64 t6), (6, .int .i64 t7)] _ hb, Result.andThen]
theorem exec_bld43 {w : World} {o : Oper} {a : Act} {X0 X1 : Operand} {r : Int} {z : Sn} (ho : o.op = .build 43 #[(0, X0), (1, X1)]) (h0 : a.eval X0 = .int .i64 r) (h1 : a.eval X1 = .agg (encN z).toArray) :
    (execOp a.eval o).run Tryd.prog w = .ok (.value (.agg (encS { z with r := r }).toArray)) w := by
  have hb : Tryd.prog.built 43 #[(0, Value.int .i64 r), (1, .agg (encN z).toArray)].toList = some (encS { z with r := r }).toArray := by kernel_rfl
  simp [execOp, ho, h0, h1, run_build w 43 #[(0, Value.int .i64 r), (1, .agg (encN z).toArray)] _ hb, Result.andThen]
theorem exec_bld43z {w : World} {o : Oper} {a : Act} (ho : o.op = .build 43 #[]) : (execOp a.eval o).run Tryd.prog w = .ok (.value (.agg (encS z0).toArray)) w := by
  have hb : Tryd.prog.built 43 (#[] : Array (Nat × Value)).toList = some (encS z0).toArray := by kernel_rfl
  simp [execOp, ho, run_build w 43 #[] _ hb, Result.andThen]
def SnapD (br : Nat) (s : List UInt8) (a n : Nat) (w : World) (e : Ending) (w' : World) : Prop :=
  ∃ (ok : Bool) (a2 n2 : Nat) (y : Sx), e = .returned (.tuple #[.agg (encS y.s).toArray, .bool ok]) ∧ Blk w' br 56 (rfC s a2 n2).toArray ∧ w.grownBy w' (some br) ∧ OwnX w.heap.size w' y ∧ a2 ≤ s.length ∧ n2 ≤ 1000000000 ∧
    match snapP (s.drop a) n with
    | (none, m) => ok = false ∧ n2 = m
    | (some (x, r), m) => ok = true ∧ n2 = m ∧ r = s.drop a2 ∧ n2 + (s.length - a2) ≤ 999999999 ∧ x = y.k
end Go.Proofs.YtjaaldeaknmmbaaDoor
namespace Go.Proofs.YtjaaldeaknmmbaaDoor
open Go.RowKit Go.Shelf

set_option maxRecDepth 100000 in
set_option maxHeartbeats 3200000 in
theorem rsnap_any (br : Nat) (s : List UInt8) (a n : Nat) (w : World) (hb : Blk w br 56 (rfC s a n).toArray) (hl : s.length ≤ 900000000) (ha : a ≤ s.length) (hn : n + (s.length - a) ≤ 999999999) : Calls Tryd.prog 16 #[.pointer (some ⟨br, 0, none⟩)] w (SnapD br s a n w) := by
  obtain ⟨b2, hb2⟩ : ∃ b, b = w.heap.size := ⟨_, rfl⟩
  have hs9 : s.length ≤ 1000000000 := by omega
  have HBRL : Hid (br < w.heap.size) := hb.lt
  have HNB : Hid (n + (s.length - a) ≤ 999999999) := hn
  have HBB : Hid (b2 = w.heap.size) := hb2
  have HS9 : Hid (s.length ≤ 900000000) := hl
  have hfs : ∀ (X : World) (cs : Array Value), Blk X b2 43 (encS z0).toArray → Fr (fun j => j = br) w X → Fr (fun j => j = br) w (X.setRow b2 cs) := fun X cs h k => k.step (fr_setRow h) (fun j hj e => by omega)
  have HFAIL : Hid (∀ (X : World) (n2 a2 : Nat), Blk X br 56 (rfC s a2 n2).toArray → Blk X b2 43 (encS z0).toArray → Fr (fun j => j = br) w X → a2 ≤ s.length → n2 ≤ 1000000000 → snapP (s.drop a) n = (none, n2) → SnapD br s a n w (.returned (.tuple #[.agg (encS z0).toArray, .bool false])) (X.setRow b2 (encS z0).toArray)) := fun X n2 a2 h1 h2 h3 h4 h5 h6 =>
    ⟨false, a2, n2, ⟨z0, [], []⟩, rfl, h1.fr (fr_setRow h2) (fun e => by have := h1.lt; have := HBRL.out; have e' : br = b2 := e; omega), (hfs X _ h2 h3).grownB, ⟨⟨by simp, .inl ⟨rfl, rfl⟩⟩, by simp, ⟨by simp, .inl ⟨rfl, rfl⟩⟩, by simp⟩, h4, h5, by rw [h6]; exact ⟨rfl, rfl⟩⟩
  have HGOOD : Hid (∀ (X : World) (n2 a2 : Nat) (y : Sx), Blk X br 56 (rfC s a2 n2).toArray → Blk X b2 43 (encS z0).toArray → Fr (fun j => j = br) w X → a2 ≤ s.length → n2 + (s.length - a2) ≤ 999999999 → OwnX w.heap.size X y → snapP (s.drop a) n = (some (y.k, s.drop a2), n2) →
      SnapD br s a n w (.returned (.tuple #[.agg (encS y.s).toArray, .bool true])) (X.setRow b2 (encS y.s).toArray)) := fun X n2 a2 y h1 h2 h3 h4 h5 h6 h7 =>
    ⟨true, a2, n2, y, rfl, h1.fr (fr_setRow h2) (fun e => by have := h1.lt; have := HBRL.out; have e' : br = b2 := e; omega), (hfs X _ h2 h3).grownB, h6.fr (fr_setRow h2) (fun j e => blkF h2 (by decide) (by decide) e), h4, by omega, by rw [h7]; exact ⟨rfl, rfl, rfl, h5, rfl⟩⟩
  generalize SnapD br s a n w = POST at *
  have HRB := Lib.hid hb
  have HAL : Hid (a ≤ s.length) := ha
  have HN9 : Hid (n ≤ 1000000000) := by show _ ≤ _; omega
  have HP1 := Lib.hid (snapP_2 (s.drop a) n)
  clear hb hfs hn hl ha
  go_enter Tryd.func16, Tryd.ntmps16
  go_upto_region 1 with fail
  obtain ⟨W0, hW0⟩ : ∃ W0, W0 = w.alloc (.cells (encS z0).toArray 43) := ⟨_, rfl⟩
  have hW0' : W0 = w.alloc (.cells #[.int .i64 0, .int .i64 0, .int .i64 0, .int .i64 0, .int .i64 0, .int .i64 0, .int .i64 0, .int .i64 0, .int .i64 0, .int .i64 0, .int .i64 0, .int .i64 0, .int .i64 0, .int .i64 0, .int .i64 0, .int .i64 0, .bool false, .int .i64 0, .int .i64 0, .slice none 0 0, .slice none 0 0, .int .i64 0, .int .i64 0] 43) := hW0
  rw [← hW0', ← hb2]
  have HB2 : Hid (Blk W0 b2 43 (encS z0).toArray) := by rw [hW0]; exact Blk.new' hb2.symm
  have HBE : Hid (Below w.heap.size w W0) := by rw [hW0]; exact below1 _ _
  have HR := Lib.hid (HRB.out.keep HBE.out)
  have HF : Hid (Fr (fun j => j = br) w W0) := Fr.mono (Fr.below HBE.out) (fun _ h => h.elim)
  clear hW0 hW0' hb2 HRB HBE
  go_wp2_with (go_at_call 29; refine (rnext_any br s a (n) W0 HR.out hs9 HAL.out HN9.out).mono ?_)
  rintro e W1a hnp
  obtain ⟨lv, ws1, a1, rfl, hg, hw, hwl, hr, h1l, h1a, hln, hlt⟩ := nextu hnp HAL.out hs9
  have HBx := Lib.hid (HB2.out.fr (Fr.grown hg) (fun e => blk_neq HB2.out HR.out (by decide) e))
  have HFx : Hid (Fr (fun j => j = br) w W1a) := HF.out.step (Fr.grown hg) (fun _ _ e => e)
  have HLN1 := Lib.hid (hln (snapS) rfl)
  have HW := Lib.hid hw
  have HWL := Lib.hid hwl
  have HLT1 := Lib.hid hlt
  have HA1 : Hid (a ≤ a1) := h1a
  clear HR HB2 HF HAL  hnp hln hw hwl hlt h1a
  have HR := Lib.hid hr
  have HB2 := HBx
  have HF := HFx
  have HAL : Hid (a1 ≤ s.length) := h1l
  clear hr h1l hg HBx HFx 
  go_wp2_with (go_at_call 28; refine (row28_any wSnap 6 ws1 lv W1a HW.out HWL.out (by decide)).mono ?_)
  rintro e W1b ⟨⟨nv1, ok1, rfl, h5s, h5n⟩, hb⟩
  have H5 : Hid (∀ ns, rowS wSnap 6 ws1 = some ns → ok1 = true ∧ W1b.ownsRow w.heap.size 3 1 nv1 ns.length (ns.map (.int .i64))) := fun ns h => ⟨(h5s ns h).1, own_le (h5s ns h).2 HF.out.size⟩
  have H5N := Lib.hid h5n
  have HRx := Lib.hid (HR.out.keep hb)
  have HBx := Lib.hid (HB2.out.keep hb)
  have HFx : Hid (Fr (fun j => j = br) w W1b) := HF.out.step (Fr.below hb) (fun _ _ e => e.elim)
  clear HR HB2 HF h5s h5n hb HW HWL 
  have HR := HRx
  have HB2 := HBx
  have HF := HFx
  clear HRx HBx HFx 
  have HNL : Hid (n + 1 ≤ 1000000000) := by have := HNB.out; have := HS9.out; show _ ≤ _; omega
  cases ok1 with
  | false =>
    have HWHY : Hid (snapP (s.drop a) n = (none, n + 1)) := by
      have hq : rowS wSnap 6 ws1 = none := by
        cases hq : rowS wSnap 6 ws1 with
        | none => rfl
        | some ns => have := (H5.out ns hq).1; cases this
      show _ = _
      rw [HP1.out, HLN1.out, snapS_no hq]
      rfl
    go_wp2_with (first | ((with_reducible show wpList _ _ _ (Oper.mk (some 30) _ _ _ _ _ :: _) _ _); refine wpList_val rfl (exec_bld43z rfl) ?_) | ((with_reducible show wpList _ _ _ (Oper.mk none _ _ _ _ _ :: _) _ _); refine wpList_skipped rfl (exec_storeW W41 rfl rfl rfl rfl (encS_one _) HB2.out rfl) ?_))
    exact bodyPost_ret (results_cell2v rfl W41 rfl rfl (Blk.list (Blk.part HB2.out)) (v := .bool false) rfl) rfl (HFAIL.out _ _ _ HR.out HB2.out HF.out HAL.out HNL.out (HWHY.out))
  | true =>
    obtain ⟨nl, hnl⟩ : ∃ ns, rowS wSnap 6 ws1 = some ns := by
      cases hq : rowS wSnap 6 ws1 with
      | none => have := H5N.out hq; cases this
      | some ns => exact ⟨ns, rfl⟩
    have hown := (H5.out _ hnl).2
    obtain ⟨q0, q1, q2, q3, q4, q5, rfl⟩ := len6 (rowS_iff.1 hnl).2.1
    obtain ⟨g1, c1, rfl, hc1a, hc1b, -, -⟩ := own_cellsV hown (by simp) (by simp)
    have HN1 := Lib.hid hown
    have HROW1 := Lib.hid hnl
    clear hown hnl H5 H5N
    have hc4 : W1b.cell? ⟨g1, 4, none⟩ = some (.int .i64 q4) := own_at HN1.out (j := 4) rfl
    go_upto_region 2 with fail
    go_cut [29] from 16 to 29 (fun t wx => t = .bool (decide (q4 ≠ 0 ∧ q4 ≠ 1)) ∧ wx = W1b)
    case first =>
      by_cases h1 : q4 = 0
      · subst h1
        go_wp2_with fail
        go_meet
        exact ⟨by simp, rfl⟩
      · have hb1 : (q4 == 0) = false := by simp [h1]
        have hc1 : (q4 != 0) = true := by simp [h1]
        by_cases h2 : q4 = 1
        · subst h2
          go_wp2_with fail
          go_meet
          exact ⟨by simp, rfl⟩
        · have hb2 : (q4 == 1) = false := by simp [h2]
          have hc2 : (q4 != 1) = true := by simp [h2]
          go_wp2_with fail
          go_meet
          exact ⟨by simp [h1, h2], rfl⟩
    case rest =>
    obtain ⟨rfl, rfl⟩ := hcut
    rename World => W1b
    by_cases hq4 : q4 ≠ 0 ∧ q4 ≠ 1
    · rw [decide_eq_true hq4]
      have HWHY : Hid (snapP (s.drop a) n = (none, n + 1)) := by
        show _ = _
        rw [HP1.out, HLN1.out, snapS_no2 HROW1.out (by simp; exact hq4.1) (by simp; exact hq4.2)]
        rfl
      clear hq4
      go_wp2_with (first | ((with_reducible show wpList _ _ _ (Oper.mk (some 30) _ _ _ _ _ :: _) _ _); refine wpList_val rfl (exec_bld43z rfl) ?_) | ((with_reducible show wpList _ _ _ (Oper.mk none _ _ _ _ _ :: _) _ _); refine wpList_skipped rfl (exec_storeW W41 rfl rfl rfl rfl (encS_one _) HB2.out rfl) ?_))
      exact bodyPost_ret (results_cell2v rfl W41 rfl rfl (Blk.list (Blk.part HB2.out)) (v := .bool false) rfl) rfl (HFAIL.out _ _ _ HR.out HB2.out HF.out HAL.out HNL.out (HWHY.out))
    · rw [decide_eq_false hq4]
      have hq01 : q4 = 0 ∨ q4 = 1 := by omega
      have HQ01 : Hid (q4 = 0 ∨ q4 = 1) := hq01
      have hne1 : ws1 ≠ [] := by
        intro e
        have := HROW1.out
        rw [e, rowS_nil] at this
        cases this
      have HP2 : Hid (snapP (s.drop a) n = snapP2 [q0, q1, q2, q3, q4, q5] (s.drop a1) (n + 1)) := by
        show _ = _
        rw [HP1.out, HLN1.out, snapS_yes HROW1.out (by simpa using hq01)]
        rfl
      have HNB1 : Hid (n + 1 + (s.length - a1) ≤ 999999999) := by have := HNB.out; have := HLT1.out hne1; have := HAL.out; show _ ≤ _; omega
      have HN9 : Hid (n + 1 ≤ 1000000000) := HNL
      clear HP1 HLN1 HLT1 HROW1 HNB HNL hne1
      go_wp2_with (go_at_call 29; refine (rnext_any br s a1 (n + 1) W1b HR.out hs9 HAL.out HN9.out).mono ?_)
      rintro e W2a hnp
      obtain ⟨lv, ws2, a2, rfl, hg, hw, hwl, hr, h1l, h1a, hln, hlt⟩ := nextu hnp HAL.out hs9
      have HBx := Lib.hid (HB2.out.fr (Fr.grown hg) (fun e => blk_neq HB2.out HR.out (by decide) e))
      have HFx : Hid (Fr (fun j => j = br) w W2a) := HF.out.step (Fr.grown hg) (fun _ _ e => e)
      have HN1x := Lib.hid (own_fr HN1.out (Fr.grown hg) (fun g h e => own_apart HN1.out HR.out (by decide) g h e))
      have HLN2 := Lib.hid (hln (rowS wState 5) (rowS_nil _ _))
      have HW := Lib.hid hw
      have HWL := Lib.hid hwl
      have HLT2 := Lib.hid hlt
      have HA2 : Hid (a1 ≤ a2) := h1a
      clear HR HB2 HF HAL HN1 hnp hln hw hwl hlt h1a
      have HR := Lib.hid hr
      have HB2 := HBx
      have HF := HFx
      have HAL : Hid (a2 ≤ s.length) := h1l
      have HN1 := HN1x
      clear hr h1l hg HBx HFx HN1x
      go_wp2_with (go_at_call 28; refine (row28_any wState 5 ws2 lv W2a HW.out HWL.out (by decide)).mono ?_)
      rintro e W2b ⟨⟨nv2, ok2, rfl, h5s, h5n⟩, hb⟩
      have H5 : Hid (∀ ns, rowS wState 5 ws2 = some ns → ok2 = true ∧ W2b.ownsRow w.heap.size 3 1 nv2 ns.length (ns.map (.int .i64))) := fun ns h => ⟨(h5s ns h).1, own_le (h5s ns h).2 HF.out.size⟩
      have H5N := Lib.hid h5n
      have HRx := Lib.hid (HR.out.keep hb)
      have HBx := Lib.hid (HB2.out.keep hb)
      have HFx : Hid (Fr (fun j => j = br) w W2b) := HF.out.step (Fr.below hb) (fun _ _ e => e.elim)
      have HN1x := Lib.hid (ow_below HN1.out hb)
      clear HR HB2 HF h5s h5n hb HW HWL HN1
      have HR := HRx
      have HB2 := HBx
      have HF := HFx
      have HN1 := HN1x
      clear HRx HBx HFx HN1x
      have HNL : Hid (n + 1 + 1 ≤ 1000000000) := by have := HNB1.out; show _ ≤ _; omega
      cases ok2 with
      | false =>
        have HWHY : Hid (snapP (s.drop a) n = (none, n + 1 + 1)) := by
          have hq : rowS wState 5 ws2 = none := by
            cases hq : rowS wState 5 ws2 with
            | none => rfl
            | some ns => have := (H5.out ns hq).1; cases this
          show _ = _
          rw [HP2.out, snapP2, HLN2.out, hq]
          rfl
        go_wp2_with (first | ((with_reducible show wpList _ _ _ (Oper.mk (some 39) _ _ _ _ _ :: _) _ _); refine wpList_val rfl (exec_bld43z rfl) ?_) | ((with_reducible show wpList _ _ _ (Oper.mk none _ _ _ _ _ :: _) _ _); refine wpList_skipped rfl (exec_storeW W41 rfl rfl rfl rfl (encS_one _) HB2.out rfl) ?_))
        exact bodyPost_ret (results_cell2v rfl W41 rfl rfl (Blk.list (Blk.part HB2.out)) (v := .bool false) rfl) rfl (HFAIL.out _ _ _ HR.out HB2.out HF.out HAL.out HNL.out (HWHY.out))
      | true =>
        obtain ⟨nl, hnl⟩ : ∃ ns, rowS wState 5 ws2 = some ns := by
          cases hq : rowS wState 5 ws2 with
          | none => have := H5N.out hq; cases this
          | some ns => exact ⟨ns, rfl⟩
        have hown := (H5.out _ hnl).2
        obtain ⟨t1, t2, t3, t4, t5, rfl⟩ := len5 (rowS_iff.1 hnl).2.1
        obtain ⟨g2, c2, rfl, hc2a, hc2b, -, -⟩ := own_cellsV hown (by simp) (by simp)
        have HN2 := Lib.hid hown
        have HROW2 := Lib.hid hnl
        clear hown hnl H5 H5N
        have hne1 : ws2 ≠ [] := by
          intro e
          have := HROW2.out
          rw [e, rowS_nil] at this
          cases this
        have HP3 : Hid (snapP (s.drop a) n = snapP3 [q0, q1, q2, q3, q4, q5] [t1, t2, t3, t4, t5] (s.drop a2) (n + 1 + 1)) := by
          show _ = _
          rw [HP2.out, snapP2, HLN2.out, HROW2.out]
          rfl
        have HNB2 : Hid (n + 1 + 1 + (s.length - a2) ≤ 999999999) := by have := HNB1.out; have := HLT2.out hne1; have := HAL.out; show _ ≤ _; omega
        have HN9 : Hid (n + 1 + 1 ≤ 1000000000) := HNL
        clear HP2 HLN2 HLT2 HROW2 HNB1 HNL hne1
        go_wp2_with (go_at_call 29; refine (rnext_any br s a2 (n + 1 + 1) W2b HR.out hs9 HAL.out HN9.out).mono ?_)
        rintro e W3a hnp
        obtain ⟨lv, ws3, a3, rfl, hg, hw, hwl, hr, h1l, h1a, hln, hlt⟩ := nextu hnp HAL.out hs9
        have HBx := Lib.hid (HB2.out.fr (Fr.grown hg) (fun e => blk_neq HB2.out HR.out (by decide) e))
        have HFx : Hid (Fr (fun j => j = br) w W3a) := HF.out.step (Fr.grown hg) (fun _ _ e => e)
        have HN1x := Lib.hid (own_fr HN1.out (Fr.grown hg) (fun g h e => own_apart HN1.out HR.out (by decide) g h e))
        have HN2x := Lib.hid (own_fr HN2.out (Fr.grown hg) (fun g h e => own_apart HN2.out HR.out (by decide) g h e))
        have HLN3 := Lib.hid (hln (rowS wView 7) (rowS_nil _ _))
        have HW := Lib.hid hw
        have HWL := Lib.hid hwl
        have HLT3 := Lib.hid hlt
        have HA3 : Hid (a2 ≤ a3) := h1a
        clear HR HB2 HF HAL HN1 HN2 hnp hln hw hwl hlt h1a
        have HR := Lib.hid hr
        have HB2 := HBx
        have HF := HFx
        have HAL : Hid (a3 ≤ s.length) := h1l
        have HN1 := HN1x
        have HN2 := HN2x
        clear hr h1l hg HBx HFx HN1x HN2x
        go_wp2_with (go_at_call 28; refine (row28_any wView 7 ws3 lv W3a HW.out HWL.out (by decide)).mono ?_)
        rintro e W3b ⟨⟨nv3, ok3, rfl, h5s, h5n⟩, hb⟩
        have H5 : Hid (∀ ns, rowS wView 7 ws3 = some ns → ok3 = true ∧ W3b.ownsRow w.heap.size 3 1 nv3 ns.length (ns.map (.int .i64))) := fun ns h => ⟨(h5s ns h).1, own_le (h5s ns h).2 HF.out.size⟩
        have H5N := Lib.hid h5n
        have HRx := Lib.hid (HR.out.keep hb)
        have HBx := Lib.hid (HB2.out.keep hb)
        have HFx : Hid (Fr (fun j => j = br) w W3b) := HF.out.step (Fr.below hb) (fun _ _ e => e.elim)
        have HN1x := Lib.hid (ow_below HN1.out hb)
        have HN2x := Lib.hid (ow_below HN2.out hb)
        clear HR HB2 HF h5s h5n hb HW HWL HN1 HN2
        have HR := HRx
        have HB2 := HBx
        have HF := HFx
        have HN1 := HN1x
        have HN2 := HN2x
        clear HRx HBx HFx HN1x HN2x
        have HNL : Hid (n + 1 + 1 + 1 ≤ 1000000000) := by have := HNB2.out; show _ ≤ _; omega
        cases ok3 with
        | false =>
          have HWHY : Hid (snapP (s.drop a) n = (none, n + 1 + 1 + 1)) := by
            have hq : rowS wView 7 ws3 = none := by
              cases hq : rowS wView 7 ws3 with
              | none => rfl
              | some ns => have := (H5.out ns hq).1; cases this
            show _ = _
            rw [HP3.out, snapP3, HLN3.out, hq]
            rfl
          go_wp2_with (first | ((with_reducible show wpList _ _ _ (Oper.mk (some 48) _ _ _ _ _ :: _) _ _); refine wpList_val rfl (exec_bld43z rfl) ?_) | ((with_reducible show wpList _ _ _ (Oper.mk none _ _ _ _ _ :: _) _ _); refine wpList_skipped rfl (exec_storeW W41 rfl rfl rfl rfl (encS_one _) HB2.out rfl) ?_))
          exact bodyPost_ret (results_cell2v rfl W41 rfl rfl (Blk.list (Blk.part HB2.out)) (v := .bool false) rfl) rfl (HFAIL.out _ _ _ HR.out HB2.out HF.out HAL.out HNL.out (HWHY.out))
        | true =>
          obtain ⟨nl, hnl⟩ : ∃ ns, rowS wView 7 ws3 = some ns := by
            cases hq : rowS wView 7 ws3 with
            | none => have := H5N.out hq; cases this
            | some ns => exact ⟨ns, rfl⟩
          have hown := (H5.out _ hnl).2
          obtain ⟨m1, m2, m3, m4, m5, m6, m7, rfl⟩ := len7 (rowS_iff.1 hnl).2.1
          obtain ⟨g3, c3, rfl, hc3a, hc3b, -, -⟩ := own_cellsV hown (by simp) (by simp)
          have HN3 := Lib.hid hown
          have HROW3 := Lib.hid hnl
          clear hown hnl H5 H5N
          have hne1 : ws3 ≠ [] := by
            intro e
            have := HROW3.out
            rw [e, rowS_nil] at this
            cases this
          have HP4 : Hid (snapP (s.drop a) n = snapP4 [q0, q1, q2, q3, q4, q5] [t1, t2, t3, t4, t5] [m1, m2, m3, m4, m5, m6, m7] (s.drop a3) (n + 1 + 1 + 1)) := by
            show _ = _
            rw [HP3.out, snapP3, HLN3.out, HROW3.out]
            rfl
          have HNB3 : Hid (n + 1 + 1 + 1 + (s.length - a3) ≤ 999999999) := by have := HNB2.out; have := HLT3.out hne1; have := HAL.out; show _ ≤ _; omega
          clear HP3 HLN3 HLT3 HROW3 HNB2 HNL HN9 hne1
          go_wp2_with (go_at_call 30; refine (rhost_any br s a3 (n + 1 + 1 + 1) W3b HR.out HS9.out HAL.out HNB3.out).mono ?_)
          rintro e W7 ⟨ok4, a4, n4, y, rfl, hr, hg, hown, h4l, h4n, hmm⟩
          have HBx := Lib.hid (HB2.out.fr (Fr.grown hg) (fun e => blk_neq HB2.out HR.out (by decide) e))
          have HFx : Hid (Fr (fun j => j = br) w W7) := HF.out.step (Fr.grown hg) (fun _ _ e => e)
          have HOY := Lib.hid (hown.le HF.out.size)
          have HN1x := Lib.hid (own_fr HN1.out (Fr.grown hg) (fun g h e => own_apart HN1.out HR.out (by decide) g h e))
          have HN2x := Lib.hid (own_fr HN2.out (Fr.grown hg) (fun g h e => own_apart HN2.out HR.out (by decide) g h e))
          have HN3x := Lib.hid (own_fr HN3.out (Fr.grown hg) (fun g h e => own_apart HN3.out HR.out (by decide) g h e))
          have HMM := Lib.hid hmm
          have HNL : Hid (n4 ≤ 1000000000) := h4n
          have HA4 : Hid (a4 ≤ s.length) := h4l
          clear HR HB2 HF HN1 HN2 HN3 hg hown h4l h4n hmm HAL
          have HR7 := Lib.hid hr
          clear hr
          go_upto_region 11 with ((with_reducible show wpList _ _ _ (Oper.mk none _ _ _ _ _ :: _) _ _); refine wpList_boxW W37 rfl rfl rfl (encH y.s) rfl rfl (encH_one _) rfl ?_; go_must (intro W8 HX8 hal hz8; have HX8 := Lib.hid HX8; have HAL8 := Lib.hid hal; clear hal hz8))
          obtain ⟨b8, hb8⟩ : ∃ b, b = W7.heap.size := ⟨_, rfl⟩
          rw [← hb8] at HX8 ⊢
          have HR := Lib.hid (HR7.out.keep HAL8.out)
          have HB2 := Lib.hid (HBx.out.keep HAL8.out)
          have HF : Hid (Fr (fun j => j = br) w W8) := HFx.out.step (Fr.below HAL8.out) (fun _ _ e => e.elim)
          have HOY8 := Lib.hid (HOY.out.below HAL8.out)
          have HN1 := Lib.hid (ow_below HN1x.out HAL8.out)
          have HN2 := Lib.hid (ow_below HN2x.out HAL8.out)
          have HN3 := Lib.hid (ow_below HN3x.out HAL8.out)
          have HAL := HA4
          clear HR7 HBx HFx HOY HN1x HN2x HN3x HAL8 hb8 HA4
          cases ok4 with
          | false =>
            have HWHY : Hid (snapP (s.drop a) n = (none, n4)) := by
              have h1 := HMM.out
              generalize hq : hostP (s.drop a3) (n + 1 + 1 + 1) = o at h1
              obtain ⟨o, m⟩ := o
              cases o with
              | none =>
                obtain ⟨_, rfl⟩ := h1
                show _ = _
                rw [HP4.out, snapP4, hq]
              | some p => obtain ⟨h2, _⟩ := h1; cases h2
            go_wp2_with (first | ((with_reducible show wpList _ _ _ (Oper.mk (some 56) _ _ _ _ _ :: _) _ _); refine wpList_val rfl (exec_bld43z rfl) ?_) | ((with_reducible show wpList _ _ _ (Oper.mk none _ _ _ _ _ :: _) _ _); refine wpList_skipped rfl (exec_storeW W41 rfl rfl rfl rfl (encS_one _) HB2.out rfl) ?_))
            exact bodyPost_ret (results_cell2v rfl W41 rfl rfl (Blk.list (Blk.part HB2.out)) (v := .bool false) rfl) rfl (HFAIL.out _ _ _ HR.out HB2.out HF.out HAL.out HNL.out (HWHY.out))
          | true =>
            have HFIN : Hid (snapP (s.drop a) n = (some ((⟨⟨q0, q1, q2, t1, t2, t3, t4, t5, m1, m2, m3, m4, m5, m6, m7, q3, (q4 == 1), q5, y.s.hi, y.s.oa, y.s.on, y.s.oc, y.s.ia, y.s.nn, y.s.ic, y.s.lf, y.s.wt⟩, y.out, y.ms⟩ : Sx).k, s.drop a4), n4) ∧ n4 + (s.length - a4) ≤ 999999999) := by
              have h1 := HMM.out
              generalize hq : hostP (s.drop a3) (n + 1 + 1 + 1) = o at h1
              obtain ⟨o, m⟩ := o
              cases o with
              | none => obtain ⟨h2, _⟩ := h1; cases h2
              | some p =>
                obtain ⟨q, r⟩ := p
                obtain ⟨_, rfl, rfl, h5, rfl⟩ := h1
                refine ⟨?_, h5⟩
                rw [HP4.out, snapP4, hq]
                have eb : (q4 == 1) = decide (q4 = 1) := by rcases HQ01.out with rfl | rfl <;> rfl
                simp only [mkS, Option.map_some, Sx.k, eb]
            have HG1 : Hid (g1 < W8.heap.size) := by have := (HN1.out.lt g1 rfl).2; exact this
            have HG8 : Hid (b8 < W8.heap.size) := HX8.out.lt
            have HCH : Hid (∀ j u, (encH y.s)[j]? = some u → W8.cell? ⟨b8, 0 + j, none⟩ = some u) := HX8.out.list
            clear HMM HP4 HX8 HNB3 HNL
            go_upto_region 13 with fail
            refine wp_region_held_drew (S := (fun X => Below W8.heap.size W8 X)) (by kernel_rfl) ((Below.refl _ W8).drew) (fun hHeld => ?_)
            (refine takeW (i := 0) (v := ?_) rfl (by kernel_rfl) (by kernel_rfl) (by kernel_rfl) (fun _ _ _ h => h) (by rfl) (by assumption) ?_ ?_; rotate_left; (intro W hW; (try dsimp only at hW); go_simp; try with_reducible rfl); (try simp only [Act.put, List.setIfInBounds_toArray, List.set_cons_zero, List.set_cons_succ]))
            (refine takeW (i := 1) (v := ?_) rfl (by kernel_rfl) (by kernel_rfl) (by kernel_rfl) (fun _ _ _ h => h) (by rfl) (by assumption) ?_ ?_; rotate_left; (intro W hW; (try dsimp only at hW); go_simp; try with_reducible rfl); (try simp only [Act.put, List.setIfInBounds_toArray, List.set_cons_zero, List.set_cons_succ]))
            (refine takeW (i := 2) rfl (by kernel_rfl) (by kernel_rfl) (by kernel_rfl) (fun _ _ _ h => h) (by rfl) (by assumption) (fun W hW => exec_load1 (v := .int .i64 q1) FL3 rfl rfl ((hW.cell HG1.out).trans (own_at HN1.out (j := 1) rfl))) ?_; (try simp only [Act.put, List.setIfInBounds_toArray, List.set_cons_zero, List.set_cons_succ]))
            (refine takeW (i := 3) (v := ?_) rfl (by kernel_rfl) (by kernel_rfl) (by kernel_rfl) (fun _ _ _ h => h) (by rfl) (by assumption) ?_ ?_; rotate_left; (intro W hW; (try dsimp only at hW); go_simp; try with_reducible rfl); (try simp only [Act.put, List.setIfInBounds_toArray, List.set_cons_zero, List.set_cons_succ]))
            (refine takeW (i := 4) (v := ?_) rfl (by kernel_rfl) (by kernel_rfl) (by kernel_rfl) (fun _ _ _ h => h) (by rfl) (by assumption) ?_ ?_; rotate_left; (intro W hW; (try dsimp only at hW); go_simp; try with_reducible rfl); (try simp only [Act.put, List.setIfInBounds_toArray, List.set_cons_zero, List.set_cons_succ]))
            (refine takeW (i := 5) rfl (by kernel_rfl) (by kernel_rfl) (by kernel_rfl) (fun _ _ _ h => h) (by rfl) (by assumption) (fun W hW => exec_load1 (v := .int .i64 q2) FL3 rfl rfl ((hW.cell HG1.out).trans (own_at HN1.out (j := 2) rfl))) ?_; (try simp only [Act.put, List.setIfInBounds_toArray, List.set_cons_zero, List.set_cons_succ]))
            (refine takeW (i := 6) (v := ?_) rfl (by kernel_rfl) (by kernel_rfl) (by kernel_rfl) (fun _ _ _ h => h) (by rfl) (by assumption) ?_ ?_; rotate_left; (intro W hW; (try dsimp only at hW); go_simp; try with_reducible rfl); (try simp only [Act.put, List.setIfInBounds_toArray, List.set_cons_zero, List.set_cons_succ]))
            (refine takeW (i := 7) (v := ?_) rfl (by kernel_rfl) (by kernel_rfl) (by kernel_rfl) (fun _ _ _ h => h) (by rfl) (by assumption) ?_ ?_; rotate_left; (intro W hW; (try dsimp only at hW); go_simp; try with_reducible rfl); (try simp only [Act.put, List.setIfInBounds_toArray, List.set_cons_zero, List.set_cons_succ]))
            (refine takeW (i := 8) rfl (by kernel_rfl) (by kernel_rfl) (by kernel_rfl) (fun _ _ _ h => h) (by rfl) (by assumption) (fun W hW => exec_load1 (v := .int .i64 q3) FL3 rfl rfl ((hW.cell HG1.out).trans (own_at HN1.out (j := 3) rfl))) ?_; (try simp only [Act.put, List.setIfInBounds_toArray, List.set_cons_zero, List.set_cons_succ]))
            (refine takeW (i := 9) (v := ?_) rfl (by kernel_rfl) (by kernel_rfl) (by kernel_rfl) (fun _ _ _ h => h) (by rfl) (by assumption) ?_ ?_; rotate_left; (intro W hW; (try dsimp only at hW); go_simp; try with_reducible rfl); (try simp only [Act.put, List.setIfInBounds_toArray, List.set_cons_zero, List.set_cons_succ]))
            (refine takeW (i := 10) (v := ?_) rfl (by kernel_rfl) (by kernel_rfl) (by kernel_rfl) (fun _ _ _ h => h) (by rfl) (by assumption) ?_ ?_; rotate_left; (intro W hW; (try dsimp only at hW); go_simp; try with_reducible rfl); (try simp only [Act.put, List.setIfInBounds_toArray, List.set_cons_zero, List.set_cons_succ]))
            (refine takeW (i := 11) rfl (by kernel_rfl) (by kernel_rfl) (by kernel_rfl) (fun _ _ _ h => h) (by rfl) (by assumption) (fun W hW => exec_load1 (v := .int .i64 q4) FL3 rfl rfl ((hW.cell HG1.out).trans (own_at HN1.out (j := 4) rfl))) ?_; (try simp only [Act.put, List.setIfInBounds_toArray, List.set_cons_zero, List.set_cons_succ]))
            (refine takeW (i := 12) (v := ?_) rfl (by kernel_rfl) (by kernel_rfl) (by kernel_rfl) (fun _ _ _ h => h) (by rfl) (by assumption) ?_ ?_; rotate_left; (intro W hW; (try dsimp only at hW); go_simp; try with_reducible rfl); (try simp only [Act.put, List.setIfInBounds_toArray, List.set_cons_zero, List.set_cons_succ]))
            (refine takeW (i := 13) (v := ?_) rfl (by kernel_rfl) (by kernel_rfl) (by kernel_rfl) (fun _ _ _ h => h) (by rfl) (by assumption) ?_ ?_; rotate_left; (intro W hW; (try dsimp only at hW); go_simp; try with_reducible rfl); (try simp only [Act.put, List.setIfInBounds_toArray, List.set_cons_zero, List.set_cons_succ]))
            (refine takeW (i := 14) (v := ?_) rfl (by kernel_rfl) (by kernel_rfl) (by kernel_rfl) (fun _ _ _ h => h) (by rfl) (by assumption) ?_ ?_; rotate_left; (intro W hW; (try dsimp only at hW); go_simp; try with_reducible rfl); (try simp only [Act.put, List.setIfInBounds_toArray, List.set_cons_zero, List.set_cons_succ]))
            (refine takeW (i := 15) rfl (by kernel_rfl) (by kernel_rfl) (by kernel_rfl) (fun _ _ _ h => h) (by rfl) (by assumption) (fun W hW => exec_load1 (v := .int .i64 q5) FL3 rfl rfl ((hW.cell HG1.out).trans (own_at HN1.out (j := 5) rfl))) ?_; (try simp only [Act.put, List.setIfInBounds_toArray, List.set_cons_zero, List.set_cons_succ]))
            (refine takeW (i := 16) rfl (by kernel_rfl) (by kernel_rfl) (by kernel_rfl) (fun _ _ _ h => h) (by rfl) (by assumption) (fun W hW => exec_loadW W37 rfl rfl rfl (fun j u hj => (hW.cell HG8.out).trans (HCH.out j u hj))) ?_; (try simp only [Act.put, List.setIfInBounds_toArray, List.set_cons_zero, List.set_cons_succ]))
            (refine takeW (i := 17) rfl (by kernel_rfl) (by kernel_rfl) (by kernel_rfl) (fun _ _ _ h => h) (by rfl) (by assumption) (fun W hW => exec_bld41 (b := (q4 == 1)) rfl rfl rfl rfl rfl rfl rfl) ?_; (try simp only [Act.put, List.setIfInBounds_toArray, List.set_cons_zero, List.set_cons_succ]))
            refine takeV (i := 18) rfl (by kernel_rfl) (by rfl) (exec_all41 rfl) ((Below.refl _ _).drew.alloc (Nat.le_refl _) _) ?_
            (try simp only [Act.put, List.setIfInBounds_toArray, List.set_cons_zero, List.set_cons_succ])
            refine takeVs (i := 19) rfl (by kernel_rfl) (by rfl) (exec_storeW W39 rfl rfl rfl rfl (encN_one _) (World.alloc_heap_new _ _) rfl) (by rw [setRow_alloc]; exact (Below.refl _ _).drew.alloc (Nat.le_refl _) _) ?_
            (try simp only [Act.put])
            refine wpAnyH_done (by kernel_rfl) ?_ _
            rw [setRow_alloc]
            clear hHeld
            obtain ⟨z1, hz1⟩ : ∃ z1 : Sn, z1 = ⟨0, q1, q2, 0, 0, 0, 0, 0, 0, 0, 0, 0, 0, 0, 0, q3, q4 == 1, q5, y.s.hi, y.s.oa, y.s.on, y.s.oc, y.s.ia, y.s.nn, y.s.ic, y.s.lf, y.s.wt⟩ := ⟨_, rfl⟩
            rw [← hz1]
            obtain ⟨W9, hW9⟩ : ∃ W, W = W8.drew.alloc (.cells (encN z1).toArray 41) := ⟨_, rfl⟩
            obtain ⟨b9, hb9⟩ : ∃ b, b = W8.drew.heap.size := ⟨_, rfl⟩
            rw [← hW9, ← hb9]
            have hbel : Below W8.heap.size W8 W9.drew := by rw [hW9]; exact ((Below.refl _ W8).drew.alloc (Nat.le_refl _) _).drew
            have HB9 : Hid (Blk W9.drew b9 41 (encN z1).toArray) := by
              have : Blk W9 b9 41 (encN z1).toArray := by rw [hW9, hb9]; exact Blk.new' rfl
              exact this
            have HRx := Lib.hid (HR.out.keep hbel)
            have HBx := Lib.hid (HB2.out.keep hbel)
            have HFx : Hid (Fr (fun j => j = br) w W9.drew) := HF.out.step (Fr.below hbel) (fun _ _ e => e.elim)
            have HOx := Lib.hid (HOY8.out.below hbel)
            have HN1x := Lib.hid (ow_below HN1.out hbel)
            have HN2x := Lib.hid (ow_below HN2.out hbel)
            have HN3x := Lib.hid (ow_below HN3.out hbel)
            have H9W : Hid (w.heap.size ≤ b9) := by rw [hb9]; exact HF.out.size
            have H92 : Hid (¬ b9 = b2) := fun e => blk_neq HB9.out HBx.out (by decide) e
            have HZ1 := Lib.hid hz1
            clear HR HB2 HF HOY8 HN1 HN2 HN3 hz1 hW9 hb9 hbel HG1 HG8 HCH
            have HN2 := HN2x
            go_upto_region 14 with fail
            refine wp_region_held_drew (S := (fun X : World => X.ownsRow w.heap.size 3 1 (.slice (some ⟨g2, 0, none⟩) 5 c2) 5 ([t1, t2, t3, t4, t5].map (.int .i64)))) (by kernel_rfl) HN2.out (fun hHeld => ?_)
            (refine takeW (i := 0) (v := ?_) rfl (by kernel_rfl) (by kernel_rfl) (by kernel_rfl) (fun _ _ _ h => h) (by rfl) (by assumption) ?_ ?_; rotate_left; (intro W hW; (try dsimp only at hW); go_simp; try with_reducible rfl); (try simp only [Act.put, List.setIfInBounds_toArray, List.set_cons_zero, List.set_cons_succ]))
            (refine takeW (i := 1) (v := ?_) rfl (by kernel_rfl) (by kernel_rfl) (by kernel_rfl) (fun _ _ _ h => h) (by rfl) (by assumption) ?_ ?_; rotate_left; (intro W hW; (try dsimp only at hW); go_simp; try with_reducible rfl); (try simp only [Act.put, List.setIfInBounds_toArray, List.set_cons_zero, List.set_cons_succ]))
            (refine takeW (i := 2) rfl (by kernel_rfl) (by kernel_rfl) (by kernel_rfl) (fun _ _ _ h => h) (by rfl) (by assumption) (fun W hW => exec_load1 (v := .int .i64 t1) FL3 rfl rfl (own_at hW (j := 0) rfl)) ?_; (try simp only [Act.put, List.setIfInBounds_toArray, List.set_cons_zero, List.set_cons_succ]))
            (refine takeW (i := 3) (v := ?_) rfl (by kernel_rfl) (by kernel_rfl) (by kernel_rfl) (fun _ _ _ h => h) (by rfl) (by assumption) ?_ ?_; rotate_left; (intro W hW; (try dsimp only at hW); go_simp; try with_reducible rfl); (try simp only [Act.put, List.setIfInBounds_toArray, List.set_cons_zero, List.set_cons_succ]))
            (refine takeW (i := 4) (v := ?_) rfl (by kernel_rfl) (by kernel_rfl) (by kernel_rfl) (fun _ _ _ h => h) (by rfl) (by assumption) ?_ ?_; rotate_left; (intro W hW; (try dsimp only at hW); go_simp; try with_reducible rfl); (try simp only [Act.put, List.setIfInBounds_toArray, List.set_cons_zero, List.set_cons_succ]))
            (refine takeW (i := 5) rfl (by kernel_rfl) (by kernel_rfl) (by kernel_rfl) (fun _ _ _ h => h) (by rfl) (by assumption) (fun W hW => exec_load1 (v := .int .i64 t2) FL3 rfl rfl (own_at hW (j := 1) rfl)) ?_; (try simp only [Act.put, List.setIfInBounds_toArray, List.set_cons_zero, List.set_cons_succ]))
            (refine takeW (i := 6) (v := ?_) rfl (by kernel_rfl) (by kernel_rfl) (by kernel_rfl) (fun _ _ _ h => h) (by rfl) (by assumption) ?_ ?_; rotate_left; (intro W hW; (try dsimp only at hW); go_simp; try with_reducible rfl); (try simp only [Act.put, List.setIfInBounds_toArray, List.set_cons_zero, List.set_cons_succ]))
            (refine takeW (i := 7) (v := ?_) rfl (by kernel_rfl) (by kernel_rfl) (by kernel_rfl) (fun _ _ _ h => h) (by rfl) (by assumption) ?_ ?_; rotate_left; (intro W hW; (try dsimp only at hW); go_simp; try with_reducible rfl); (try simp only [Act.put, List.setIfInBounds_toArray, List.set_cons_zero, List.set_cons_succ]))
            (refine takeW (i := 8) rfl (by kernel_rfl) (by kernel_rfl) (by kernel_rfl) (fun _ _ _ h => h) (by rfl) (by assumption) (fun W hW => exec_load1 (v := .int .i64 t3) FL3 rfl rfl (own_at hW (j := 2) rfl)) ?_; (try simp only [Act.put, List.setIfInBounds_toArray, List.set_cons_zero, List.set_cons_succ]))
            (refine takeW (i := 9) (v := ?_) rfl (by kernel_rfl) (by kernel_rfl) (by kernel_rfl) (fun _ _ _ h => h) (by rfl) (by assumption) ?_ ?_; rotate_left; (intro W hW; (try dsimp only at hW); go_simp; try with_reducible rfl); (try simp only [Act.put, List.setIfInBounds_toArray, List.set_cons_zero, List.set_cons_succ]))
            (refine takeW (i := 10) (v := ?_) rfl (by kernel_rfl) (by kernel_rfl) (by kernel_rfl) (fun _ _ _ h => h) (by rfl) (by assumption) ?_ ?_; rotate_left; (intro W hW; (try dsimp only at hW); go_simp; try with_reducible rfl); (try simp only [Act.put, List.setIfInBounds_toArray, List.set_cons_zero, List.set_cons_succ]))
            (refine takeW (i := 11) rfl (by kernel_rfl) (by kernel_rfl) (by kernel_rfl) (fun _ _ _ h => h) (by rfl) (by assumption) (fun W hW => exec_load1 (v := .int .i64 t4) FL3 rfl rfl (own_at hW (j := 3) rfl)) ?_; (try simp only [Act.put, List.setIfInBounds_toArray, List.set_cons_zero, List.set_cons_succ]))
            (refine takeW (i := 12) (v := ?_) rfl (by kernel_rfl) (by kernel_rfl) (by kernel_rfl) (fun _ _ _ h => h) (by rfl) (by assumption) ?_ ?_; rotate_left; (intro W hW; (try dsimp only at hW); go_simp; try with_reducible rfl); (try simp only [Act.put, List.setIfInBounds_toArray, List.set_cons_zero, List.set_cons_succ]))
            (refine takeW (i := 13) (v := ?_) rfl (by kernel_rfl) (by kernel_rfl) (by kernel_rfl) (fun _ _ _ h => h) (by rfl) (by assumption) ?_ ?_; rotate_left; (intro W hW; (try dsimp only at hW); go_simp; try with_reducible rfl); (try simp only [Act.put, List.setIfInBounds_toArray, List.set_cons_zero, List.set_cons_succ]))
            (refine takeW (i := 14) rfl (by kernel_rfl) (by kernel_rfl) (by kernel_rfl) (fun _ _ _ h => h) (by rfl) (by assumption) (fun W hW => exec_load1 (v := .int .i64 t5) FL3 rfl rfl (own_at hW (j := 4) rfl)) ?_; (try simp only [Act.put, List.setIfInBounds_toArray, List.set_cons_zero, List.set_cons_succ]))
            (refine takeW (i := 15) rfl (by kernel_rfl) (by kernel_rfl) (by kernel_rfl) (fun _ _ _ h => h) (by rfl) (by assumption) (fun W hW => exec_bld33 rfl rfl rfl rfl rfl rfl) ?_; (try simp only [Act.put, List.setIfInBounds_toArray, List.set_cons_zero, List.set_cons_succ]))
            (refine takeW (i := 16) (v := ?_) rfl (by kernel_rfl) (by kernel_rfl) (by kernel_rfl) (fun _ _ _ h => h) (by rfl) (by assumption) ?_ ?_; rotate_left; (intro W hW; (try dsimp only at hW); go_simp; try with_reducible rfl); (try simp only [Act.put, List.setIfInBounds_toArray, List.set_cons_zero, List.set_cons_succ]))
            clear hHeld
            refine takeVs (i := 17) rfl (by kernel_rfl) (by rfl) (exec_storePart W31 rfl rfl rfl rfl (by simp [Value.oneCell']) HB9.out (show 2 + 5 ≤ 22 by decide)) (own_fr HN2.out (fr_setRow HB9.out) (fun g h e => own_apart HN2.out HB9.out (by decide) g h e)) ?_
            (try simp only [Act.put])
            refine wpAnyH_done (by kernel_rfl) ?_ _
            clear HN2 HN2x
            obtain ⟨z2, hz2⟩ : ∃ z2 : Sn, z2 = { z1 with t1 := t1, t2 := t2, t3 := t3, t4 := t4, t5 := t5 } := ⟨_, rfl⟩
            obtain ⟨Wa, hWa⟩ : ∃ W, W = W9.drew.setRow b9 (putAt (encN z1) 2 [.int .i64 t1, .int .i64 t2, .int .i64 t3, .int .i64 t4, .int .i64 t5]).toArray := ⟨_, rfl⟩
            rw [← hWa]
            have hfr : Fr (fun j => j = b9) W9.drew Wa.drew := by rw [hWa]; exact (fr_setRow HB9.out).drew
            have HB9a : Hid (Blk Wa.drew b9 41 (encN z2).toArray) := by
              have : Blk Wa b9 41 (putAt (encN z1) 2 [.int .i64 t1, .int .i64 t2, .int .i64 t3, .int .i64 t4, .int .i64 t5]).toArray := by rw [hWa]; exact Blk.part HB9.out
              rw [hz2]
              exact this
            have HRa := Lib.hid (HRx.out.fr hfr (fun e => blk_neq HRx.out HB9.out (by decide) e))
            have HBa := Lib.hid (HBx.out.fr hfr (fun e => H92.out e.symm))
            have HFa : Hid (Fr (fun j => j = br) w Wa.drew) := HFx.out.step hfr (fun j hj e => by have := H9W.out; have e' : j = b9 := e; omega)
            have HOa := Lib.hid (HOx.out.fr hfr (fun j e => blkF HB9.out (by decide) (by decide) e))
            have HN1a := Lib.hid (own_fr HN1x.out hfr (fun g h e => own_apart HN1x.out HB9.out (by decide) g h e))
            have HN3 := Lib.hid (own_fr HN3x.out hfr (fun g h e => own_apart HN3x.out HB9.out (by decide) g h e))
            have HZ2 := Lib.hid hz2
            clear HRx HBx HFx HOx HN1x HN3x HB9 hfr hWa hz2
            have HB9 := HB9a
            clear HB9a
            go_upto_region 15 with fail
            refine wp_region_held_drew (S := (fun X : World => X.ownsRow w.heap.size 3 1 (.slice (some ⟨g3, 0, none⟩) 7 c3) 7 ([m1, m2, m3, m4, m5, m6, m7].map (.int .i64)))) (by kernel_rfl) HN3.out (fun hHeld => ?_)
            (refine takeW (i := 0) (v := ?_) rfl (by kernel_rfl) (by kernel_rfl) (by kernel_rfl) (fun _ _ _ h => h) (by rfl) (by assumption) ?_ ?_; rotate_left; (intro W hW; (try dsimp only at hW); go_simp; try with_reducible rfl); (try simp only [Act.put, List.setIfInBounds_toArray, List.set_cons_zero, List.set_cons_succ]))
            (refine takeW (i := 1) (v := ?_) rfl (by kernel_rfl) (by kernel_rfl) (by kernel_rfl) (fun _ _ _ h => h) (by rfl) (by assumption) ?_ ?_; rotate_left; (intro W hW; (try dsimp only at hW); go_simp; try with_reducible rfl); (try simp only [Act.put, List.setIfInBounds_toArray, List.set_cons_zero, List.set_cons_succ]))
            (refine takeW (i := 2) rfl (by kernel_rfl) (by kernel_rfl) (by kernel_rfl) (fun _ _ _ h => h) (by rfl) (by assumption) (fun W hW => exec_load1 (v := .int .i64 m1) FL3 rfl rfl (own_at hW (j := 0) rfl)) ?_; (try simp only [Act.put, List.setIfInBounds_toArray, List.set_cons_zero, List.set_cons_succ]))
            (refine takeW (i := 3) (v := ?_) rfl (by kernel_rfl) (by kernel_rfl) (by kernel_rfl) (fun _ _ _ h => h) (by rfl) (by assumption) ?_ ?_; rotate_left; (intro W hW; (try dsimp only at hW); go_simp; try with_reducible rfl); (try simp only [Act.put, List.setIfInBounds_toArray, List.set_cons_zero, List.set_cons_succ]))
            (refine takeW (i := 4) (v := ?_) rfl (by kernel_rfl) (by kernel_rfl) (by kernel_rfl) (fun _ _ _ h => h) (by rfl) (by assumption) ?_ ?_; rotate_left; (intro W hW; (try dsimp only at hW); go_simp; try with_reducible rfl); (try simp only [Act.put, List.setIfInBounds_toArray, List.set_cons_zero, List.set_cons_succ]))
            (refine takeW (i := 5) rfl (by kernel_rfl) (by kernel_rfl) (by kernel_rfl) (fun _ _ _ h => h) (by rfl) (by assumption) (fun W hW => exec_load1 (v := .int .i64 m2) FL3 rfl rfl (own_at hW (j := 1) rfl)) ?_; (try simp only [Act.put, List.setIfInBounds_toArray, List.set_cons_zero, List.set_cons_succ]))
            (refine takeW (i := 6) (v := ?_) rfl (by kernel_rfl) (by kernel_rfl) (by kernel_rfl) (fun _ _ _ h => h) (by rfl) (by assumption) ?_ ?_; rotate_left; (intro W hW; (try dsimp only at hW); go_simp; try with_reducible rfl); (try simp only [Act.put, List.setIfInBounds_toArray, List.set_cons_zero, List.set_cons_succ]))
            (refine takeW (i := 7) (v := ?_) rfl (by kernel_rfl) (by kernel_rfl) (by kernel_rfl) (fun _ _ _ h => h) (by rfl) (by assumption) ?_ ?_; rotate_left; (intro W hW; (try dsimp only at hW); go_simp; try with_reducible rfl); (try simp only [Act.put, List.setIfInBounds_toArray, List.set_cons_zero, List.set_cons_succ]))
            (refine takeW (i := 8) rfl (by kernel_rfl) (by kernel_rfl) (by kernel_rfl) (fun _ _ _ h => h) (by rfl) (by assumption) (fun W hW => exec_load1 (v := .int .i64 m3) FL3 rfl rfl (own_at hW (j := 2) rfl)) ?_; (try simp only [Act.put, List.setIfInBounds_toArray, List.set_cons_zero, List.set_cons_succ]))
            (refine takeW (i := 9) (v := ?_) rfl (by kernel_rfl) (by kernel_rfl) (by kernel_rfl) (fun _ _ _ h => h) (by rfl) (by assumption) ?_ ?_; rotate_left; (intro W hW; (try dsimp only at hW); go_simp; try with_reducible rfl); (try simp only [Act.put, List.setIfInBounds_toArray, List.set_cons_zero, List.set_cons_succ]))
            (refine takeW (i := 10) (v := ?_) rfl (by kernel_rfl) (by kernel_rfl) (by kernel_rfl) (fun _ _ _ h => h) (by rfl) (by assumption) ?_ ?_; rotate_left; (intro W hW; (try dsimp only at hW); go_simp; try with_reducible rfl); (try simp only [Act.put, List.setIfInBounds_toArray, List.set_cons_zero, List.set_cons_succ]))
            (refine takeW (i := 11) rfl (by kernel_rfl) (by kernel_rfl) (by kernel_rfl) (fun _ _ _ h => h) (by rfl) (by assumption) (fun W hW => exec_load1 (v := .int .i64 m4) FL3 rfl rfl (own_at hW (j := 3) rfl)) ?_; (try simp only [Act.put, List.setIfInBounds_toArray, List.set_cons_zero, List.set_cons_succ]))
            (refine takeW (i := 12) (v := ?_) rfl (by kernel_rfl) (by kernel_rfl) (by kernel_rfl) (fun _ _ _ h => h) (by rfl) (by assumption) ?_ ?_; rotate_left; (intro W hW; (try dsimp only at hW); go_simp; try with_reducible rfl); (try simp only [Act.put, List.setIfInBounds_toArray, List.set_cons_zero, List.set_cons_succ]))
            (refine takeW (i := 13) (v := ?_) rfl (by kernel_rfl) (by kernel_rfl) (by kernel_rfl) (fun _ _ _ h => h) (by rfl) (by assumption) ?_ ?_; rotate_left; (intro W hW; (try dsimp only at hW); go_simp; try with_reducible rfl); (try simp only [Act.put, List.setIfInBounds_toArray, List.set_cons_zero, List.set_cons_succ]))
            (refine takeW (i := 14) rfl (by kernel_rfl) (by kernel_rfl) (by kernel_rfl) (fun _ _ _ h => h) (by rfl) (by assumption) (fun W hW => exec_load1 (v := .int .i64 m5) FL3 rfl rfl (own_at hW (j := 4) rfl)) ?_; (try simp only [Act.put, List.setIfInBounds_toArray, List.set_cons_zero, List.set_cons_succ]))
            (refine takeW (i := 15) (v := ?_) rfl (by kernel_rfl) (by kernel_rfl) (by kernel_rfl) (fun _ _ _ h => h) (by rfl) (by assumption) ?_ ?_; rotate_left; (intro W hW; (try dsimp only at hW); go_simp; try with_reducible rfl); (try simp only [Act.put, List.setIfInBounds_toArray, List.set_cons_zero, List.set_cons_succ]))
            (refine takeW (i := 16) (v := ?_) rfl (by kernel_rfl) (by kernel_rfl) (by kernel_rfl) (fun _ _ _ h => h) (by rfl) (by assumption) ?_ ?_; rotate_left; (intro W hW; (try dsimp only at hW); go_simp; try with_reducible rfl); (try simp only [Act.put, List.setIfInBounds_toArray, List.set_cons_zero, List.set_cons_succ]))
            (refine takeW (i := 17) rfl (by kernel_rfl) (by kernel_rfl) (by kernel_rfl) (fun _ _ _ h => h) (by rfl) (by assumption) (fun W hW => exec_load1 (v := .int .i64 m6) FL3 rfl rfl (own_at hW (j := 5) rfl)) ?_; (try simp only [Act.put, List.setIfInBounds_toArray, List.set_cons_zero, List.set_cons_succ]))
            (refine takeW (i := 18) (v := ?_) rfl (by kernel_rfl) (by kernel_rfl) (by kernel_rfl) (fun _ _ _ h => h) (by rfl) (by assumption) ?_ ?_; rotate_left; (intro W hW; (try dsimp only at hW); go_simp; try with_reducible rfl); (try simp only [Act.put, List.setIfInBounds_toArray, List.set_cons_zero, List.set_cons_succ]))
            (refine takeW (i := 19) (v := ?_) rfl (by kernel_rfl) (by kernel_rfl) (by kernel_rfl) (fun _ _ _ h => h) (by rfl) (by assumption) ?_ ?_; rotate_left; (intro W hW; (try dsimp only at hW); go_simp; try with_reducible rfl); (try simp only [Act.put, List.setIfInBounds_toArray, List.set_cons_zero, List.set_cons_succ]))
            (refine takeW (i := 20) rfl (by kernel_rfl) (by kernel_rfl) (by kernel_rfl) (fun _ _ _ h => h) (by rfl) (by assumption) (fun W hW => exec_load1 (v := .int .i64 m7) FL3 rfl rfl (own_at hW (j := 6) rfl)) ?_; (try simp only [Act.put, List.setIfInBounds_toArray, List.set_cons_zero, List.set_cons_succ]))
            (refine takeW (i := 21) rfl (by kernel_rfl) (by kernel_rfl) (by kernel_rfl) (fun _ _ _ h => h) (by rfl) (by assumption) (fun W hW => exec_bld35 rfl rfl rfl rfl rfl rfl rfl rfl) ?_; (try simp only [Act.put, List.setIfInBounds_toArray, List.set_cons_zero, List.set_cons_succ]))
            (refine takeW (i := 22) (v := ?_) rfl (by kernel_rfl) (by kernel_rfl) (by kernel_rfl) (fun _ _ _ h => h) (by rfl) (by assumption) ?_ ?_; rotate_left; (intro W hW; (try dsimp only at hW); go_simp; try with_reducible rfl); (try simp only [Act.put, List.setIfInBounds_toArray, List.set_cons_zero, List.set_cons_succ]))
            clear hHeld
            refine takeVs (i := 23) rfl (by kernel_rfl) (by rfl) (exec_storePart W33 rfl rfl rfl rfl (by simp [Value.oneCell']) HB9.out (show 7 + 7 ≤ 22 by decide)) (own_fr HN3.out (fr_setRow HB9.out) (fun g h e => own_apart HN3.out HB9.out (by decide) g h e)) ?_
            (try simp only [Act.put])
            refine wpAnyH_done (by kernel_rfl) ?_ _
            clear HN3
            obtain ⟨z3, hz3⟩ : ∃ z3 : Sn, z3 = { z2 with m1 := m1, m2 := m2, m3 := m3, m4 := m4, m5 := m5, m6 := m6, m7 := m7 } := ⟨_, rfl⟩
            obtain ⟨Wb, hWb⟩ : ∃ W, W = Wa.drew.setRow b9 (putAt (encN z2) 7 [.int .i64 m1, .int .i64 m2, .int .i64 m3, .int .i64 m4, .int .i64 m5, .int .i64 m6, .int .i64 m7]).toArray := ⟨_, rfl⟩
            rw [← hWb]
            have hfr : Fr (fun j => j = b9) Wa.drew Wb.drew := by rw [hWb]; exact (fr_setRow HB9.out).drew
            have HB9b : Hid (Blk Wb.drew b9 41 (encN z3).toArray) := by
              have : Blk Wb b9 41 (putAt (encN z2) 7 [.int .i64 m1, .int .i64 m2, .int .i64 m3, .int .i64 m4, .int .i64 m5, .int .i64 m6, .int .i64 m7]).toArray := by rw [hWb]; exact Blk.part HB9.out
              rw [hz3]
              exact this
            have HR := Lib.hid (HRa.out.fr hfr (fun e => blk_neq HRa.out HB9.out (by decide) e))
            have HB2 := Lib.hid (HBa.out.fr hfr (fun e => H92.out e.symm))
            have HF : Hid (Fr (fun j => j = br) w Wb.drew) := HFa.out.step hfr (fun j hj e => by have := H9W.out; have e' : j = b9 := e; omega)
            have HO := Lib.hid (HOa.out.fr hfr (fun j e => blkF HB9.out (by decide) (by decide) e))
            have HN1 := Lib.hid (own_fr HN1a.out hfr (fun g h e => own_apart HN1a.out HB9.out (by decide) g h e))
            have HZ3 := Lib.hid hz3
            clear HRa HBa HFa HOa HN1a HB9 hfr hWb hz3
            have HB9 := HB9b
            clear HB9b
            go_upto_region 16 with fail
            refine wp_region_held_drew (S := (fun X : World => X.ownsRow w.heap.size 3 1 (.slice (some ⟨g1, 0, none⟩) 6 c1) 6 ([q0, q1, q2, q3, q4, q5].map (.int .i64)) ∧ Blk X b9 41 (encN z3).toArray)) (by kernel_rfl) ⟨HN1.out, HB9.out⟩ (fun hHeld => ?_)
            have HHD : Hid ((fun X : World => X.ownsRow w.heap.size 3 1 (.slice (some ⟨g1, 0, none⟩) 6 c1) 6 ([q0, q1, q2, q3, q4, q5].map (.int .i64)) ∧ Blk X b9 41 (encN z3).toArray) (Wb.drew.setRow b2 (encS { z3 with r := q0 }).toArray)) := ⟨own_fr HN1.out (fr_setRow HB2.out) (fun g h e => own_apart HN1.out HB2.out (by decide) g h e), HB9.out.fr (fr_setRow HB2.out) H92.out⟩
            (refine takeW (i := 0) (v := ?_) rfl (by kernel_rfl) (by kernel_rfl) (by kernel_rfl) (fun _ _ _ h => h) (by rfl) (by assumption) ?_ ?_; rotate_left; (intro W hW; (try dsimp only at hW); go_simp; try with_reducible rfl); (try simp only [Act.put, List.setIfInBounds_toArray, List.set_cons_zero, List.set_cons_succ]))
            (refine takeW (i := 1) (v := ?_) rfl (by kernel_rfl) (by kernel_rfl) (by kernel_rfl) (fun _ _ _ h => h) (by rfl) (by assumption) ?_ ?_; rotate_left; (intro W hW; (try dsimp only at hW); go_simp; try with_reducible rfl); (try simp only [Act.put, List.setIfInBounds_toArray, List.set_cons_zero, List.set_cons_succ]))
            (refine takeW (i := 2) rfl (by kernel_rfl) (by kernel_rfl) (by kernel_rfl) (fun _ _ _ h => h) (by rfl) (by assumption) (fun W hW => exec_load1 (v := .int .i64 q0) FL3 rfl rfl (own_at hW.1 (j := 0) rfl)) ?_; (try simp only [Act.put, List.setIfInBounds_toArray, List.set_cons_zero, List.set_cons_succ]))
            (refine takeW (i := 3) rfl (by kernel_rfl) (by kernel_rfl) (by kernel_rfl) (fun _ _ _ h => h) (by rfl) (by assumption) (fun W hW => exec_loadW W39 rfl rfl rfl (Blk.list hW.2)) ?_; (try simp only [Act.put, List.setIfInBounds_toArray, List.set_cons_zero, List.set_cons_succ]))
            (refine takeW (i := 4) rfl (by kernel_rfl) (by kernel_rfl) (by kernel_rfl) (fun _ _ _ h => h) (by rfl) (by assumption) (fun W hW => exec_bld43 rfl rfl rfl) ?_; (try simp only [Act.put, List.setIfInBounds_toArray, List.set_cons_zero, List.set_cons_succ]))
            clear hHeld
            refine takeVs (i := 5) rfl (by kernel_rfl) (by rfl) (exec_storeW W41 rfl rfl rfl rfl (encS_one _) HB2.out rfl) ⟨own_fr HN1.out (fr_setRow HB2.out) (fun g h e => own_apart HN1.out HB2.out (by decide) g h e), HB9.out.fr (fr_setRow HB2.out) H92.out⟩ ?_
            (try simp only [Act.put])
            have hHeld := HHD.out
            (refine takeW (i := 6) (v := ?_) rfl (by kernel_rfl) (by kernel_rfl) (by kernel_rfl) (fun _ _ _ h => h) (by rfl) (by assumption) ?_ ?_; rotate_left; (intro W hW; (try dsimp only at hW); go_simp; try with_reducible rfl); (try simp only [Act.put, List.setIfInBounds_toArray, List.set_cons_zero, List.set_cons_succ]))
            refine wpAnyH_done (by kernel_rfl) ?_ _
            clear hHeld
            have HY : Hid ({ z3 with r := q0 } = (⟨q0, q1, q2, t1, t2, t3, t4, t5, m1, m2, m3, m4, m5, m6, m7, q3, (q4 == 1), q5, y.s.hi, y.s.oa, y.s.on, y.s.oc, y.s.ia, y.s.nn, y.s.ic, y.s.lf, y.s.wt⟩ : Sn)) := by
              show _ = _
              rw [HZ3.out, HZ2.out, HZ1.out]
            have HOF : Hid (OwnX w.heap.size Wb.drew ⟨⟨q0, q1, q2, t1, t2, t3, t4, t5, m1, m2, m3, m4, m5, m6, m7, q3, (q4 == 1), q5, y.s.hi, y.s.oa, y.s.on, y.s.oc, y.s.ia, y.s.nn, y.s.ic, y.s.lf, y.s.wt⟩, y.out, y.ms⟩) := ⟨HO.out.out, HO.out.ob, HO.out.inn, HO.out.each⟩
            have HG := Lib.hid (HGOOD.out _ n4 a4 _ HR.out HB2.out HF.out HAL.out HFIN.out.2 HOF.out HFIN.out.1)
            rw [HY.out]
            clear HHD
            go_wp2
            exact bodyPost_ret (results_cell2v rfl W41 rfl rfl (Blk.list (Blk.part HB2.out)) (v := .bool true) rfl) rfl HG.out
end Go.Proofs.YtjaaldeaknmmbaaDoor
