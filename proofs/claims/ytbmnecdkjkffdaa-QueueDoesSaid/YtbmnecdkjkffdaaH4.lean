/- slices.DeleteFunc at events, of a node. -/
import Derived.Test.YtbmnecdkjkffdaaH3
namespace Go.Proofs.Ytbmnecdkjkffdaa
open Go.RowKit Go.Shelf

theorem run_zeroE (w : World) : (zeroValue 31).run Try.prog w = .ok (.agg (encE E0).toArray) w := by kernel_rfl
theorem zeroE (n : Nat) : (Builtin.zeroCells (encE E0).toArray n).toList = (List.replicate n E0).flatMap encE := by
  have h1 : (Builtin.zeroCells (encE E0).toArray n).toList = List.replicate (n * 4) (.int .i64 0) := by
    refine List.eq_replicate_iff.2 ⟨by simp [Builtin.zeroCells, encE], fun b hb => ?_⟩
    unfold Builtin.zeroCells at hb
    simp only [Array.toList_map, List.mem_map] at hb
    obtain ⟨i, -, rfl⟩ := hb
    have : i % 4 < 4 := Nat.mod_lt _ (by decide)
    show (#[Value.int .i64 0, .int .i64 0, .int .i64 0, .int .i64 0] : Array Value)[i % 4]! = _
    generalize i % 4 = j at *
    match j with
    | 0 => rfl
    | 1 => rfl
    | 2 => rfl
    | 3 => rfl
    | j + 4 => omega
  have h2 : (List.replicate n E0).flatMap encE = List.replicate (n * 4) (.int .i64 0) := by
    refine List.eq_replicate_iff.2 ⟨by rw [flat_len encE_len]; simp, fun b hb => ?_⟩
    obtain ⟨x, hx, hb⟩ := List.mem_flatMap.1 hb
    obtain rfl := List.eq_of_mem_replicate hx
    simp [encE, E0] at hb
    exact hb
  rw [h1, h2]
/-- 'clear(s[i:])' of a row that a call owns. -/
theorem exec_clear {w : World} {o : Oper} {a : Act} {x : Operand} (ho : o.op = .call { callee := .builtin .clear, args := #[x], argTypes := #[22] }) {base g n cap i : Nat} {L : List Ev} (hn : L.length = n)
    (h : w.ownsRow base 31 4 (.slice (some ⟨g, 0, none⟩) n cap) n (L.flatMap encE)) (hi : i ≤ n) (hx : a.eval x = .slice (some ⟨g, i * 4, none⟩) (n - i) (cap - i)) :
    ∃ w', (execOp a.eval o).run Try.prog w = .ok (.value (.tuple #[])) w' ∧ w'.ownsRow base 31 4 (.slice (some ⟨g, 0, none⟩) n cap) n ((L.take i ++ List.replicate (n - i) E0).flatMap encE) ∧ w.grownBy w' (some g) := by
  by_cases h0 : n - i = 0
  · refine ⟨w, ?_, ?_, World.grownBy.refl _ _⟩
    · rw [h0] at hx
      unfold execOp
      simp only [ho, resolve, invoke, builtin, Sem.run_bind, Sem.run_pure, Result.andThen_ok, List.map_toArray, List.map_cons, List.map_nil, hx]
      simp [Builtin.clear_, run_underlying Try.underlying22, Result.andThen]
    · rw [h0, List.replicate_zero, List.append_nil, List.take_of_length_le (by omega)]
      exact h
  · rcases h.2 with ⟨h1, -⟩ | ⟨g', cap', cur, hv, hg, hh, q1, q2, q3, q4⟩
    · cases h1
    cases hv
    have hz : (Builtin.zeroCells (encE E0).toArray (n - i)).toList.length = (n - i) * 4 := by rw [zeroE, flat_len encE_len]; simp
    have hst := run_storeCells_at Try.prog g (i * 4) 31 (Builtin.zeroCells (encE E0).toArray (n - i)).toList 0 cur w hh (by rw [hz]; omega) (by rw [zeroE]; exact flat_one encE_one _)
    simp only [Nat.add_zero, hz] at hst
    obtain ⟨CS, hCS⟩ : ∃ C, C = (cur.toList.take (i * 4) ++ (Builtin.zeroCells (encE E0).toArray (n - i)).toList ++ cur.toList.drop (i * 4 + (n - i) * 4)).toArray := ⟨_, rfl⟩
    rw [← hCS] at hst
    have hl : cur.toList.length = cap * 4 := by rw [Array.length_toList]; exact q3
    refine ⟨w.setRow g CS, ?_, ⟨by rw [flat_len encE_len]; simp; omega, .inr ⟨g, cap, CS, rfl, hg, setRow_heap w g cur _ 31 _ hh, q1, q2, by rw [hCS]; simp [hz]; omega, ?_⟩⟩, ⟨rfl, rfl, rfl, by simp, fun k hk hne => setRow_other w g k _ (fun e => hne (by rw [e]))⟩⟩
    · unfold execOp
      simp only [ho, resolve, invoke, builtin, Sem.run_bind, Sem.run_pure, Result.andThen_ok, List.map_toArray, List.map_cons, List.map_nil, hx]
      obtain ⟨k, hk⟩ : ∃ k, n - i = k + 1 := ⟨n - i - 1, by omega⟩
      rw [hk] at hst ⊢
      simp [Builtin.clear_, run_underlying Try.underlying22, Value.cells, Result.andThen]
      have hst2 : (storeCells ⟨g, i * 4, none⟩ (Builtin.zeroCells #[.int .i64 0, .int .i64 0, .int .i64 0, .int .i64 0] (k + 1)).toList).run Try.prog w = .ok () (w.setRow g CS) := hst
      rw [hst2]
    · rw [hCS]
      show (cur.toList.take (i * 4) ++ (Builtin.zeroCells (encE E0).toArray (n - i)).toList ++ cur.toList.drop (i * 4 + (n - i) * 4)).take (n * 4) = _
      have e1 : (cur.toList.take (i * 4)) = (L.take i).flatMap encE := by
        have e : L.flatMap encE = (L.take i).flatMap encE ++ (L.drop i).flatMap encE := by rw [← List.flatMap_append, List.take_append_drop]
        have e2 : ((L.take i).flatMap encE).length = i * 4 := by rw [flat_len encE_len]; simp; omega
        have := congrArg (List.take (i * 4)) q4
        rw [List.take_take, Nat.min_eq_left (by omega), e, ← e2, List.take_left'] at this
        · rw [← e2]; exact this
        · rfl
      rw [e1, zeroE, ← List.flatMap_append, List.take_append_of_le_length (by rw [flat_len encE_len]; simp; omega), List.take_of_length_le (by rw [flat_len encE_len]; simp; omega)]
theorem wpList_storeOwn {P : Program} {α : Type} {enc : α → List Value} {size : Nat} {w : World} {o : Oper} {ops : Array Oper} {rest : List Oper} {a : Act} {Q : Exit → Act → World → Prop} {t : TypeId} {base : Nat} (hw : Wide P t size) (hs : ∀ x, (enc x).length = size) (h1 : ∀ x, ∀ u ∈ enc x, u.oneCell' = true) {l : List α} {g n cap i : Nat} (hn : l.length = n)
    (h : w.ownsRow base t size (.slice (some ⟨g, 0, none⟩) n cap) n (l.flatMap enc)) {x y : Operand} (ho : o.op = .store t x y) (hwn : Region.wanted o (yielded ops a.tmps) = true) (hx : a.eval x = .pointer (some ⟨g, i * size, none⟩)) {u : α} (hy : a.eval y = .agg (enc u).toArray) (hi : i < n)
    (hK : ∀ w', w'.ownsRow base t size (.slice (some ⟨g, 0, none⟩) n cap) n ((l.set i u).flatMap enc) → w.grownBy w' (some g) → wpList P ops Q rest (a.put o.dst undef) w') : wpList P ops Q (o :: rest) a w := by
  obtain ⟨w', hr, q1, q2⟩ := exec_storeOwn (P := P) (w := w) (o := o) (a := a) hw hs h1 hn h ho hx hy hi
  exact wpList_skipped hwn hr (hK w' q1 q2)
theorem closure25_any (x : Ev) (b : Nat) (node : Int) (w : World) (h : Blk w b 3 #[.int .i64 node]) :
    Calls Try.prog 25 #[.agg (encE x).toArray, .pointer (some ⟨b, 0, none⟩)] w fun e w' => e = .returned (.bool (x.n == node)) ∧ Below w.heap.size w w' := by
  have HB := Lib.hid (below1 w (.cells (encE x).toArray 31))
  have HX : Hid (Blk (w.alloc (.cells (encE x).toArray 31)) w.heap.size 31 (encE x).toArray) := Blk.new' rfl
  have cb : (w.alloc (.cells (encE x).toArray 31)).cell? ⟨b, 0, none⟩ = some (.int .i64 node) := (h.alloc _).cell 0
  clear h
  go_enter Try.func25, Try.ntmps25
  go_upto_region 1 with fail
  change Code.wp _ _ _ _ (w.alloc (.cells (encE x).toArray 31))
  generalize w.alloc (.cells (encE x).toArray 31) = W0 at *
  have cx : W0.cell? ⟨w.heap.size, 2, none⟩ = some (.int .i64 x.n) := HX.out.list0 rfl
  go_wp2
  go_ret
  exact ⟨rfl, HB.out⟩
/-- Where the first one of a node is. -/
def idxN (L : List Ev) (node : Int) : Option Nat := L.findIdx? (fun e => e.n == node)
def idxV (L : List Ev) (node : Int) : Int := match idxN L node with | some i => i | none => -1
def IdxPost (L : List Ev) (node : Int) (w : World) (e : Ending) (w' : World) : Prop := e = .returned (.int .i64 (idxV L node)) ∧ Below w.heap.size w w'
set_option maxRecDepth 100000 in
set_option maxHeartbeats 1600000 in
theorem index_any (v : Value) (L : List Ev) (b : Nat) (node : Int) (w : World) (hv : Rd encE 4 w v L) (h : Blk w b 3 #[.int .i64 node]) :
    Calls Try.prog 36 #[v, .func (.func 25) #[] #[.pointer (some ⟨b, 0, none⟩)]] w (IdxPost L node w) := by
  have HP : Hid (∀ r w', r = idxV L node → Below w.heap.size w w' → IdxPost L node w (.returned (.int .i64 r)) w') := fun r w' hr h => ⟨by rw [hr], h⟩
  have HV := Lib.hid hv
  have HB := Lib.hid h
  obtain ⟨a, cap, rfl, hcap, hcm, hlen⟩ := hv.shape
  obtain ⟨n, hn⟩ : ∃ n, n = L.length := ⟨_, rfl⟩
  rw [← hn] at hcap hlen HV
  rw [← hn]
  have HN := Lib.hid hn
  clear hv h hn
  go_enter Try.func36, Try.ntmps36
  go_wp2_with fail
  go_loopw [8] (fun i wr => ∃ k : Nat, k ≤ n ∧ i = .int .i64 k ∧ Hid (∀ e ∈ L.take k, (e.n == node) = false) ∧ Hid (Below w.heap.size w wr)) (fun i _ => n - (intOf i).toNat)
  case atStart => exact ⟨0, by omega, rfl, (by simp : ∀ e ∈ L.take 0, (e.n == node) = false), Below.refl _ _⟩
  case round =>
    obtain ⟨k, hk, rfl, HT, HW⟩ := hrel
    obtain ⟨W1, rfl⟩ : ∃ W1 : World, W1 = wr := ⟨_, rfl⟩
    by_cases hlt : k < n
    · obtain ⟨x, hx⟩ : ∃ x, L[k]? = some x := ⟨_, List.getElem?_eq_getElem (by have := HN.out; omega)⟩
      obtain ⟨bl, off, rfl, hbl, hc⟩ := (HV.out.below HW.out).row (by rintro rfl; simp at hx)
      have HC := Lib.hid (hc k x hx)
      have HCL := Lib.hid (closure25_any x b node W1 (HB.out.keep HW.out))
      have HTS := Lib.hid (take_snoc hx)
      have HIX : Hid ((x.n == node) = true → (k : Int) = idxV L node) := fun hq => by
        have : idxN L node = some k := by
          unfold idxN
          rw [List.findIdx?_eq_some_iff_getElem]
          obtain ⟨h1, h2⟩ := List.getElem?_eq_some_iff.1 hx
          refine ⟨h1, by rw [h2]; exact hq, fun j hj => ?_⟩
          have := HT.out (L[j]'(by omega)) (by rw [List.mem_take_iff_getElem]; exact ⟨j, by omega, rfl⟩)
          simp [this]
        unfold idxV
        rw [this]
      clear hx hc
      go_wp2_with ((with_reducible show wpList _ _ _ (Oper.mk (some 15) _ _ _ _ _ :: _) _ _); refine wpList_loadW W31 rfl rfl rfl (encE x) rfl HC.out ?_)
      refine HCL.out.mono ?_
      rintro e w2 ⟨rfl, hb2⟩
      have HB2 := Lib.hid (HW.out.trans (hb2.mono HW.out.size))
      clear HCL hb2
      cases hq : (x.n == node) with
      | true =>
        have HR := Lib.hid (HIX.out hq)
        clear hq HIX
        go_wp2
        go_ret
        exact HP.out _ _ HR.out HB2.out
      | false =>
        have HT2 : Hid (∀ e ∈ L.take (k + 1), (e.n == node) = false) := fun e he => by
          rw [HTS.out] at he
          rcases List.mem_append.1 he with he | he
          · exact HT.out e he
          · obtain rfl := List.mem_singleton.1 he
            exact hq
        clear hq HIX
        go_wp2
        go_roundw
        case rel => exact ⟨k + 1, by omega, by go_num, HT2, HB2⟩
        case measure => simp [intOf]; omega
    · obtain rfl : n = k := by omega
      have HR : Hid ((-1 : Int) = idxV L node) := by
        have : idxN L node = none := by
          unfold idxN
          rw [List.findIdx?_eq_none_iff]
          have h := HT.out
          rw [List.take_of_length_le (by have := HN.out; omega)] at h
          exact h
        show _ = _
        unfold idxV
        rw [this]
      clear hlt hk HT
      go_wp2
      go_ret
      exact HP.out _ _ HR.out HW.out
theorem wpList_clear {w : World} {o : Oper} {ops : Array Oper} {rest : List Oper} {a : Act} {Q : Exit → Act → World → Prop} {x : Operand} (ho : o.op = .call { callee := .builtin .clear, args := #[x], argTypes := #[22] }) (hwn : Region.wanted o (yielded ops a.tmps) = true) {base g n cap i : Nat} {L : List Ev} (hn : L.length = n)
    (h : w.ownsRow base 31 4 (.slice (some ⟨g, 0, none⟩) n cap) n (L.flatMap encE)) (hi : i ≤ n) (hx : a.eval x = .slice (some ⟨g, i * 4, none⟩) (n - i) (cap - i))
    (hK : ∀ w', w'.ownsRow base 31 4 (.slice (some ⟨g, 0, none⟩) n cap) n ((L.take i ++ List.replicate (n - i) E0).flatMap encE) → w.grownBy w' (some g) → wpList Try.prog ops Q rest (a.put o.dst (.tuple #[])) w') : wpList Try.prog ops Q (o :: rest) a w := by
  obtain ⟨w', hr, q1, q2⟩ := exec_clear (w := w) (o := o) (a := a) ho hn h hi hx
  exact wpList_val hwn hr (hK w' q1 q2)
theorem owns_take {w : World} {base g n cap i : Nat} {l : List Ev} (hl : l.length = n) (hi : i ≤ n) (h : w.ownsRow base 31 4 (.slice (some ⟨g, 0, none⟩) n cap) n (l.flatMap encE)) :
    w.ownsRow base 31 4 (.slice (some ⟨g, 0, none⟩) i cap) i ((l.take i).flatMap encE) := by
  rcases h.2 with ⟨h0, -⟩ | ⟨g', cap', cur, hv, hg, hh, q1, q2, q3, q4⟩
  · cases h0
  cases hv
  refine ⟨by rw [flat_len encE_len]; simp; omega, .inr ⟨g, cap, cur, rfl, hg, hh, by omega, q2, q3, ?_⟩⟩
  have e : (l.take i).flatMap encE = (l.flatMap encE).take (i * 4) := by
    have e1 : l.flatMap encE = (l.take i).flatMap encE ++ (l.drop i).flatMap encE := by rw [← List.flatMap_append, List.take_append_drop]
    have e2 : ((l.take i).flatMap encE).length = i * 4 := by rw [flat_len encE_len]; simp; omega
    rw [e1, ← e2, List.take_left']
    rfl
  rw [e, ← q4, List.take_take]
  congr 1
  omega
theorem grow_none {w w' : World} {row : Option Nat} (h : Below w.heap.size w w') : w.grownBy w' row := ⟨h.os, h.tape, h.output, h.size, fun k hk _ => h.block k hk⟩
theorem grow_trans {w w' w'' : World} {row : Option Nat} (h : w.grownBy w' row) (h' : w'.grownBy w'' row) : w.grownBy w'' row := ⟨h'.os.trans h.os, h'.tape.trans h.tape, h'.output.trans h.output, Nat.le_trans h.size h'.size, fun k hk hne => (h'.block k (Nat.lt_of_lt_of_le hk h.size) hne).trans (h.block k hk hne)⟩
def DelPost (base : Nat) (v : Value) (L : List Ev) (node : Int) (w : World) (e : Ending) (w' : World) : Prop :=
  ∃ v', e = .returned v' ∧ w'.ownsRow base 31 4 v' (keepL L node).length ((keepL L node).flatMap encE) ∧ w.grownBy w' v.ownBlock
/-- How far DeleteFunc has come. -/
def DelJ (base g n cap : Nat) (L : List Ev) (node : Int) (w : World) (i j : Nat) (W : World) : Prop :=
  i < j ∧ ∃ R : List Ev, R.length = n ∧ R.take i = keepL (L.take j) node ∧ R.drop j = L.drop j ∧ W.ownsRow base 31 4 (.slice (some ⟨g, 0, none⟩) n cap) n (R.flatMap encE) ∧ w.grownBy W (some g)
theorem keepL_snoc {L : List Ev} {j : Nat} {x : Ev} (node : Int) (hx : L[j]? = some x) : keepL (L.take (j + 1)) node = if (x.n == node) = true then keepL (L.take j) node else keepL (L.take j) node ++ [x] := by
  unfold keepL
  rw [take_snoc hx, List.filter_append]
  cases hq : (x.n == node) <;> simp [hq]
set_option maxRecDepth 100000 in
set_option maxHeartbeats 1600000 in
theorem delete_any (v : Value) (L : List Ev) (base b : Nat) (node : Int) (w : World) (hv : w.ownsRow base 31 4 v L.length (L.flatMap encE)) (hl : L.length ≤ 16384) (hb : Blk w b 3 #[.int .i64 node]) (hne : v.ownBlock ≠ some b) (hbase : base ≤ w.heap.size) :
    Calls Try.prog 24 #[v, .func (.func 25) #[] #[.pointer (some ⟨b, 0, none⟩)]] w (DelPost base v L node w) := by
  have HIX := Lib.hid (index_any v L b node w (Rd.of_owns encE_len hv (by omega)) hb)
  cases hidx : idxN L node with
  | none =>
    have hk : keepL L node = L := by
      unfold idxN at hidx
      rw [List.findIdx?_eq_none_iff] at hidx
      unfold keepL
      exact List.filter_eq_self.2 fun e he => by rw [hidx e he]; rfl
    have hiv : idxV L node = -1 := by unfold idxV; rw [hidx]
    have HP : Hid (∀ w', Below w.heap.size w w' → DelPost base v L node w (.returned v) w') := fun w' h => ⟨v, rfl, by rw [hk]; exact ow_below hv h, grow_none h⟩
    unfold IdxPost at HIX
    rw [hiv] at HIX
    clear hk hiv hidx hv hb hne
    go_enter Try.func24, Try.ntmps24
    go_wp2_with fail
    refine HIX.out.mono ?_
    rintro e w1 ⟨rfl, hb1⟩
    have HB1 := Lib.hid hb1
    clear hb1 HIX
    go_wp2
    go_ret
    exact HP.out _ HB1.out
  | some i0 =>
    have hiv : idxV L node = (i0 : Int) := by unfold idxV; rw [hidx]
    unfold idxN at hidx
    rw [List.findIdx?_eq_some_iff_getElem] at hidx
    obtain ⟨hi0, hi1, hi2⟩ := hidx
    have hk0 : L.take i0 = keepL (L.take (i0 + 1)) node := by
      rw [keepL_snoc node (List.getElem?_eq_getElem hi0), if_pos hi1]
      unfold keepL
      refine (List.filter_eq_self.2 fun e he => ?_).symm
      obtain ⟨j, hj, rfl⟩ := List.mem_take_iff_getElem.1 he
      have := hi2 j (by omega)
      simpa using this
    obtain ⟨g, cap, hvg, hcap, hcm⟩ : ∃ g cap, v = .slice (some ⟨g, 0, none⟩) L.length cap ∧ L.length ≤ cap ∧ cap ≤ 9223372036854775807 := by
      obtain ⟨a, c, h1, h2, h3, h4⟩ := owns_shape hv
      obtain ⟨g, h5, -⟩ := h4 (by omega)
      exact ⟨g, c, by rw [h1, h5], h2, h3⟩
    subst hvg
    have hbg : b ≠ g := fun e => hne (by rw [e]; rfl)
    have HP : Hid (∀ w' i m, m = keepL L node → w.grownBy w' (some g) → w'.ownsRow base 31 4 (.slice (some ⟨g, 0, none⟩) i cap) i (m.flatMap encE) → i = m.length → DelPost base (.slice (some ⟨g, 0, none⟩) L.length cap) L node w (.returned (.slice (some ⟨g, 0, none⟩) i cap)) w') := fun w' i m hm h1 h2 h3 => by
      subst hm h3
      exact ⟨_, rfl, h2, h1⟩
    obtain ⟨n, hn⟩ : ∃ n, n = L.length := ⟨_, rfl⟩
    have HJ0 : Hid (∀ w', Below w.heap.size w w' → DelJ base g n cap L node w i0 (i0 + 1) w') := fun w' h => ⟨Nat.lt_succ_self _, L, hn.symm, hk0, rfl, by rw [hn]; exact ow_below hv h, grow_none h⟩
    rw [← hn] at hi0 hcap hl HP HIX ⊢
    have HN := Lib.hid hn
    have HBN := Lib.hid hb
    have HGB : Hid (∀ W, w.grownBy W (some g) → Blk W b 3 #[.int .i64 node]) := fun W hg => hb.kept hg (by simpa using hbg)
    unfold IdxPost at HIX
    rw [hiv] at HIX
    have hbz : base ≤ w.heap.size := hbase
    clear hn hv hb hne hk0 hi1 hi2 hiv hbase
    go_enter Try.func24, Try.ntmps24
    go_wp2_with fail
    refine HIX.out.mono ?_
    rintro e w1 ⟨rfl, hb1⟩
    have HJ1 := Lib.hid (HJ0.out w1 hb1)
    clear hb1 HIX HJ0
    have hne1 : ((i0 : Int) == -1) = false := by rw [beq_eq_false_iff_ne]; omega
    go_wp2_with fail
    clear hne1
    go_loopw [5, 6] (fun u i wr => ∃ i1 j : Nat, j ≤ n ∧ u = .int .i64 i1 ∧ i = .int .i64 j ∧ Hid (DelJ base g n cap L node w i1 j wr)) (fun _ i _ => n - (intOf i).toNat)
    case atStart => exact ⟨i0, i0 + 1, by omega, rfl, by go_num, HJ1⟩
    case round =>
      clear HJ1
      obtain ⟨i1, j, hj, rfl, rfl, HJ⟩ := hrel
      obtain ⟨W1, rfl⟩ : ∃ W1 : World, W1 = wr := ⟨_, rfl⟩
      obtain ⟨hij, R, hR1, hR2, hR3, hO, hG⟩ := HJ.out
      by_cases hlt : j < n
      · obtain ⟨x, hx⟩ : ∃ x, L[j]? = some x := ⟨_, List.getElem?_eq_getElem (by have := HN.out; omega)⟩
        have hxR : R[j]? = some x := by
          have := congrArg (·[0]?) hR3
          simp only [List.getElem?_drop, Nat.add_zero] at this
          rw [this]; exact hx
        have hOR : W1.ownsRow base 31 4 (.slice (some ⟨g, 0, none⟩) n cap) R.length (R.flatMap encE) := by rw [hR1]; exact hO
        obtain ⟨bl, off, e0, hbl, hc⟩ := (Rd.of_owns encE_len (v := .slice (some ⟨g, 0, none⟩) n cap) (l := R) (by rw [hR1]; exact hO) (by omega)).row (by rintro rfl; simp at hxR)
        simp only [Option.some.injEq, Addr.mk.injEq, and_true] at e0
        obtain ⟨rfl, rfl⟩ := e0
        have hc0 := hc j x hxR
        simp only [Nat.zero_add] at hc0
        have HC := Lib.hid hc0
        have HKS := Lib.hid (keepL_snoc node hx)
        have HCL := Lib.hid (fun W (hb : Below W1.heap.size W1 W) => closure25_any x b node W ((HGB.out W1 hG).keep hb))
        have HO := Lib.hid hO
        have HG := Lib.hid hG
        have HR := Lib.hid (And.intro hR1 (And.intro hR2 hR3))
        clear hx hxR hOR hc hc0 hO hG hR1 hR2 hR3 HJ
        go_wp2_with (first | ((with_reducible show wpList _ _ _ (Oper.mk (some 25) _ _ _ _ _ :: _) _ _); refine wpList_loadW W31 rfl rfl rfl (encE x) rfl HC.out ?_) | ((with_reducible show wpList _ _ _ (Oper.mk none (Op.store 31 _ _) _ _ _ _ :: _) _ _); refine wpList_boxW W31 rfl rfl rfl (encE x) rfl rfl (encE_one x) rfl ?_; intro W2 hbx hbel hsz; have HBX := Lib.hid hbx; have HE := Lib.hid hbel; clear hbx hbel hsz) | ((with_reducible show wpList _ _ _ (Oper.mk (some 27) _ _ _ _ _ :: _) _ _); refine wpList_loadW W31 rfl rfl rfl (encE x) rfl HBX.out.list ?_))
        refine (HCL.out _ HE.out).mono ?_
        rintro e w3 ⟨rfl, hb3⟩
        have HB3 := Lib.hid (bt HE.out hb3)
        have HBX3 := Lib.hid (HBX.out.keep hb3)
        clear hb3 HCL HE HBX HC
        cases hq : (x.n == node) with
        | true =>
          have HJ2 : Hid (DelJ base g n cap L node w i1 (j + 1) w3) := ⟨by omega, R, HR.out.1, by rw [HKS.out, if_pos hq]; exact HR.out.2.1, by rw [← List.drop_drop, HR.out.2.2, List.drop_drop], ow_below HO.out HB3.out, grow_trans HG.out (grow_none HB3.out)⟩
          clear hq HKS HR
          go_wp2
          go_roundw
          case rel => exact ⟨i1, j + 1, by omega, rfl, by go_num, HJ2⟩
          case measure => simp [intOf]; omega
        | false =>
          have HO3 := Lib.hid (ow_below HO.out HB3.out)
          have HST : Hid (∀ W4, W4.ownsRow base 31 4 (.slice (some ⟨g, 0, none⟩) n cap) n ((R.set i1 x).flatMap encE) → w3.grownBy W4 (some g) → DelJ base g n cap L node w (i1 + 1) (j + 1) W4) := fun W4 h1 h2 => by
            refine ⟨by omega, R.set i1 x, by rw [List.length_set]; exact HR.out.1, ?_, ?_, h1, grow_trans (grow_trans HG.out (grow_none HB3.out)) h2⟩
            · rw [HKS.out, if_neg (by simp [hq]), ← HR.out.2.1]
              have := HR.out.1
              rw [take_snoc (x := x) (by rw [List.getElem?_set_self (by omega)]), List.take_set_of_le (Nat.le_refl _)]
            · rw [List.drop_set_of_lt (by omega), ← List.drop_drop, HR.out.2.2, List.drop_drop]
          have hin : i1 < n := by omega
          have hi1a : (0 : Int) ≤ (i1 : Int) := by omega
          have hi1b : (i1 : Int) < (n : Int) := by omega
          clear hq HKS
          go_wp2_with (first | ((with_reducible show wpList _ _ _ (Oper.mk (some 32) _ _ _ _ _ :: _) _ _); refine wpList_loadW W31 rfl rfl rfl (encE x) rfl HBX3.out.list ?_) | ((with_reducible show wpList _ _ _ (Oper.mk none (Op.store 31 _ _) _ _ _ _ :: _) _ _); refine wpList_storeOwn W31 encE_len encE_one HR.out.1 HO3.out rfl rfl rfl rfl hin ?_; intro W4 h4 hg4; have HJ4 := Lib.hid (HST.out W4 h4 hg4); clear h4 hg4))
          go_roundw
          case rel => exact ⟨i1 + 1, j + 1, by omega, by go_num, by go_num, HJ4⟩
          case measure => simp [intOf]; omega
      · obtain rfl : n = j := by omega
        have HO := Lib.hid hO
        have hin : i1 ≤ n := by omega
        have HEQ : Hid (R.take i1 = keepL L node) := by
          show _ = _
          rw [hR2, List.take_of_length_le (by have := HN.out; omega)]
        have HRL := Lib.hid hR1
        have HG := Lib.hid hG
        have hne2 : ¬ cap = i1 := by omega
        have hcc : i1 ≤ cap := by omega
        have hltn : decide (n < n) = false := by simp
        clear hO hG hR1 hR2 hR3 HJ hlt
        go_wp2_with ((with_reducible show wpList _ _ _ (Oper.mk none (Op.call _) _ _ _ _ :: _) _ _); refine wpList_clear rfl rfl HRL.out HO.out hin rfl ?_; intro w4 ho4 hg4; have HO4 := Lib.hid ho4; have HG4 := Lib.hid hg4; clear ho4 hg4)
        go_ret
        refine HP.out _ _ _ HEQ.out (grow_trans HG.out HG4.out) ?_ (by rw [List.length_take, HRL.out]; omega)
        have := owns_take (i := i1) (by simp [HRL.out]; omega) hin HO4.out
        rwa [List.take_append_of_le_length (by rw [List.length_take, HRL.out]; omega), List.take_of_length_le (by rw [List.length_take, HRL.out]; omega)] at this
end Go.Proofs.Ytbmnecdkjkffdaa
