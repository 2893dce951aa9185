/- The program's Parse. The program's Parse: the walk. -/
import Derived.Test.YtjaaldeaknmmbaaDoorX8
namespace Go.Proofs.YtjaaldeaknmmbaaDoor
open Go.RowKit Go.Shelf

def ParsePost (s : List UInt8) (w : World) (e : Ending) (w' : World) : Prop :=
  ∃ (v : Value) (l : List Sx) (n : Nat) (c : Int), e = .returned (.tuple #[v, .int .i64 (n : Int), .int .i64 c]) ∧ Sxs w' v l ∧ Below w.heap.size w w' ∧
    match parseT s with
    | (some L, _) => l.map Sx.k = L ∧ n = 0 ∧ c = 0
    | (none, m) => l = [] ∧ n = m ∧ c = 250
theorem encS_flat_len (l : List Sx) : (l.flatMap fun y => encS y.s).length = l.length * 23 := by
  induction l with
  | nil => rfl
  | cons y l ih => simp only [List.flatMap_cons, List.length_append, ih, List.length_cons]; have : (encS y.s).length = 23 := rfl; omega
theorem flat_u8 (l : List Int) : (l.flatMap (encI .u8)) = l.map (Value.int .u8) := by
  induction l with
  | nil => rfl
  | cons y l ih => simp only [List.flatMap_cons, ih, List.map_cons]; rfl
theorem byt_of {B : Nat} {W : World} {v : Value} {l : List Int} (h : W.ownsRow B 5 1 v l.length (l.map (Value.int .u8))) (hb : ∀ c ∈ l, 0 ≤ c ∧ c ≤ 255) (hl : l.length ≤ 140737488351232) : Byt W v l :=
  ⟨Rd.of_owns (enc := encI .u8) (size := 1) (fun _ => rfl) (by rw [flat_u8]; exact h) hl, hb⟩
theorem hexW_le {x : Sk} : 2 * x.out.length + 1 ≤ (oneT x).length ∧ x.ms.length ≤ (oneT x).length ∧ ∀ m ∈ x.ms, 2 * m.2.length + 1 ≤ (oneT x).length := by
  have h1 : (oneT x).length = (lineW (wSnap :: [x.r, x.i, x.s, x.tm, bitZ x.bg, x.su].map decZ)).length + ((lineW (wState :: [x.t1, x.t2, x.t3, x.t4, x.t5].map decZ)).length + ((lineW (wView :: [x.m1, x.m2, x.m3, x.m4, x.m5, x.m6, x.m7].map decZ)).length +
    ((lineW [wHost, decZ x.hi, decZ x.lf, decZ x.wt, hexW x.out, decZ x.ms.length]).length + (x.ms.flatMap inW).length))) := by
    unfold oneT
    simp only [List.length_append]
  have h2 : (hexW x.out).length ≤ (lineW [wHost, decZ x.hi, decZ x.lf, decZ x.wt, hexW x.out, decZ x.ms.length]).length := by
    rw [lineW_len]
    have := mem_len (c := 32) (ws := [wHost, decZ x.hi, decZ x.lf, decZ x.wt, hexW x.out, decZ x.ms.length]) (w := hexW x.out) (by simp)
    omega
  rw [hexW_len] at h2
  have h3 : ∀ l : List (Int × List UInt8), l.length ≤ (l.flatMap inW).length := fun l => by
    induction l with
    | nil => simp
    | cons m l ih =>
      have : 1 ≤ (inW m).length := by unfold inW lineW; simp
      simp only [List.flatMap_cons, List.length_append, List.length_cons]
      omega
  refine ⟨by omega, by have := h3 x.ms; omega, fun m hm => ?_⟩
  have h4 := flat_mem_len inW hm
  have h5 : (hexW m.2).length ≤ (inW m).length := by
    unfold inW
    rw [lineW_len]
    have := mem_len (c := 32) (ws := [wIn, decZ m.1, hexW m.2]) (w := hexW m.2) (by simp)
    omega
  rw [hexW_len] at h5
  omega
theorem OwnX.good {B : Nat} {W : World} {y : Sx} (h : OwnX B W y) (hf : y.k.Fits) (hl : (oneT y.k).length ≤ 1000000000) : GoodX W y := by
  obtain ⟨g1, g2, g3⟩ := hexW_le (x := y.k)
  have e1 : y.k.out.length = y.out.length := by simp [Sx.k, bytesOf]
  have e2 : y.k.ms.length = y.ms.length := by simp [Sx.k]
  have hsh : y.s.on = y.out.length := by
    obtain ⟨a, c, e, _⟩ := owns_shape h.out
    simp only [Value.slice.injEq] at e
    exact e.2.1
  have hi := hf.ints
  simp only [Sk.ints, Sx.k, List.mem_cons, List.not_mem_nil, or_false, forall_eq_or_imp, forall_eq, inI] at hi
  obtain ⟨h1, h2, h3, h16, h17, h4, h5, h6, h7, h8, h9, h10, h11, h12, h13, h14, h15, h18, h19, h20⟩ := hi
  refine ⟨?_, byt_of h.out h.ob (by omega), Rd.of_owns (enc := encMx) (size := 2) (fun _ => rfl) h.inn (by omega), fun m hm => ?_⟩
  · simp only [Sn.ints, List.mem_cons, List.not_mem_nil, or_false, forall_eq_or_imp, forall_eq, I64]
    exact ⟨h1, h2, h3, h4, h5, h6, h7, h8, h9, h10, h11, h12, h13, h14, h15, h16, h17, h18, h19, h20⟩
  · have hk : m.k ∈ y.k.ms := List.mem_map_of_mem (f := Mx.k) hm
    have g4 := g3 m.k hk
    have e3 : m.k.2.length = m.d.l.length := by simp [Mx.k, bytesOf]
    exact ⟨byt_of (h.each m hm).1 (h.each m hm).2 (by omega), hf.ms m.k hk⟩
/-- Where a parse stands: so many snaps read, the rest. -/
def ParseAt (s : List UInt8) (l : List Sx) (r : List UInt8) (n : Nat) : Prop := ∃ f, r.length < f ∧ parseT s = match parseP f l.length r n with
  | (none, n) => (none, n)
  | (some L, n) => (some (l.map Sx.k ++ L), n)
theorem ParseAt.start (s : List UInt8) : ParseAt s [] s 0 := ⟨s.length + 1, by omega, by
  show parseP (s.length + 1) 0 s 0 = _
  simp only [List.length_nil]
  generalize parseP (s.length + 1) 0 s 0 = o
  obtain ⟨o, m⟩ := o
  cases o <;> rfl⟩
theorem ParseAt.done {s : List UInt8} {l : List Sx} {n : Nat} (h : ParseAt s l [] n) : parseT s = (some (l.map Sx.k), n) := by
  obtain ⟨f, hf, e⟩ := h
  obtain ⟨f, rfl⟩ : ∃ g, f = g + 1 := ⟨f - 1, by simp at hf; omega⟩
  rw [e, parseP, if_pos rfl]
  simp
theorem ParseAt.full {s : List UInt8} {l : List Sx} {r : List UInt8} {n : Nat} (h : ParseAt s l r n) (hr : r ≠ []) (hl : l.length = 256) : parseT s = (none, n + 1) := by
  obtain ⟨f, hf, e⟩ := h
  obtain ⟨f, rfl⟩ : ∃ g, f = g + 1 := ⟨f - 1, by omega⟩
  rw [e, parseP, if_neg hr, if_pos hl]
theorem ParseAt.bad {s : List UInt8} {l : List Sx} {r : List UInt8} {n m : Nat} (h : ParseAt s l r n) (hr : r ≠ []) (hl : l.length ≠ 256) (hs : snapP r n = (none, m)) : parseT s = (none, m) := by
  obtain ⟨f, hf, e⟩ := h
  obtain ⟨f, rfl⟩ : ∃ g, f = g + 1 := ⟨f - 1, by omega⟩
  rw [e, parseP, if_neg hr, if_neg hl, hs]
theorem ParseAt.next {s : List UInt8} {l : List Sx} {r r' : List UInt8} {n m : Nat} {y : Sx} (h : ParseAt s l r n) (hr : r ≠ []) (hl : l.length ≠ 256) (hs : snapP r n = (some (y.k, r'), m)) : ParseAt s (l ++ [y]) r' m ∧ r'.length < r.length := by
  obtain ⟨f, hf, e⟩ := h
  obtain ⟨f, rfl⟩ : ∃ g, f = g + 1 := ⟨f - 1, by omega⟩
  have h1 := (snapP_some hs).1
  have h2 := oneT_len y.k
  have h3 : r'.length < r.length := by rw [h1, List.length_append]; omega
  refine ⟨⟨f, by omega, ?_⟩, h3⟩
  rw [e, parseP, if_neg hr, if_neg hl, hs]
  simp only [List.length_append, List.length_cons, List.length_nil, Nat.zero_add]
  generalize parseP f (l.length + 1) r' m = o
  obtain ⟨o, k⟩ := o
  cases o with
  | none => rfl
  | some L => simp
/-- What was read, at the end. -/
theorem parse_sxs {B : Nat} {W : World} {v : Value} {s : List UInt8} {l : List Sx} {n : Nat} (ho : W.ownsRow B 43 23 v l.length (l.flatMap fun y => encS y.s)) (hx : ∀ y ∈ l, OwnX B W y) (hp : parseT s = (some (l.map Sx.k), n)) (hs : s.length ≤ 1000000000) : Sxs W v l := by
  obtain ⟨e, hf, hc⟩ := parseP_some (Nat.lt_succ_self _) hp
  have hlen : l.length ≤ 256 := by have := hc (by omega); simp at this; omega
  refine ⟨Rd.of_owns (enc := fun y : Sx => encS y.s) (size := 23) (fun _ => rfl) ho (by omega), fun y hy => ?_⟩
  have hk : y.k ∈ l.map Sx.k := List.mem_map_of_mem (f := Sx.k) hy
  refine (hx y hy).good (hf y.k hk) ?_
  have := flat_mem_len oneT hk
  have e2 : s.length = ((l.map Sx.k).flatMap oneT).length := by rw [e]; rfl
  omega
def strLen (b o : Nat) (w : World) : Nat := match w.cell? ⟨b, o, none⟩ with
  | some (.string x) => x.size
  | _ => 0
theorem strLen_of {b o : Nat} {w : World} {r : List UInt8} (h : w.cell? ⟨b, o, none⟩ = some (strV r)) : strLen b o w = r.length := by
  unfold strLen
  rw [h]
  exact str_size r
theorem exec_neB {w : World} {o : Oper} {ac : Act} {X Y : Operand} {ty : TypeId} {x y : List UInt8} {b : Bool} (hb : (!decide (x = y)) = b) (ho : o.op = .binOp .neq 9 X Y ty) (hx : ac.eval X = strV x) (hy : ac.eval Y = strV y) : (execOp ac.eval o).run Tryd.prog w = .ok (.value (.bool b)) w := by
  subst hb
  exact exec_neS ho hx hy
end Go.Proofs.YtjaaldeaknmmbaaDoor
namespace Go.Proofs.YtjaaldeaknmmbaaDoor
open Go.RowKit Go.Shelf

theorem own_own {X : World} {B B' : Nat} {e e' : TypeId} {s s' n n' : Nat} {v v' : Value} {xs xs' : List Value} (h : X.ownsRow B e s v n xs) (h' : X.ownsRow B' e' s' v' n' xs') (hne : e ≠ e') : ∀ g, v.ownBlock = some g → v'.ownBlock = some g → False := by
  intro g h1 h2
  rcases h.2 with ⟨rfl, _⟩ | ⟨g1, cap, cur, rfl, _, hh, _⟩
  · simp [Value.ownBlock] at h1
  · rcases h'.2 with ⟨rfl, _⟩ | ⟨g2, cap', cur', rfl, _, hh', _⟩
    · simp [Value.ownBlock] at h2
    · simp only [Value.ownBlock, Option.some.injEq] at h1 h2
      subst h1
      subst h2
      rw [hh] at hh'
      cases hh'
      exact hne rfl
theorem exec_bld52 {w : World} {o : Oper} {ac : Act} {X : Operand} {s : List UInt8} (ho : o.op = .build 52 #[(0, X)]) (hx : ac.eval X = strV s) : (execOp ac.eval o).run Tryd.prog w = .ok (.value (.agg #[strV s, .int .i64 0, .bool false])) w := by
  generalize ac.eval = ev at *
  unfold execOp
  simp only [ho]
  unfold strV at *
  go_simp
theorem exec_inc {w : World} {o : Oper} {ac : Act} {X : Operand} {ty : TypeId} {n : Nat} (hn : n ≤ 1000000000) (ho : o.op = .binOp .add 3 X (.const (.int .i64 1)) ty) (hx : ac.eval X = .int .i64 (n : Int)) : (execOp ac.eval o).run Tryd.prog w = .ok (.value (.int .i64 ((n + 1 : Nat) : Int))) w := by
  generalize hev : ac.eval = ev at *
  have hc : ev (.const (.int .i64 1)) = .int .i64 1 := by rw [← hev]; rfl
  unfold execOp
  simp only [ho, hx, hc]
  go_simp
  have h9 : (n : Int) + 1 ≤ 9223372036854775807 := by omega
  exact IntWalk.i64_in _ ⟨by omega, h9⟩
set_option maxRecDepth 100000 in
set_option maxHeartbeats 3200000 in
theorem parse_any (s : List UInt8) (w : World) (hm : MaxLen w) (hs : s.length ≤ 900000000) : Calls Tryd.prog 7 #[strV s] w (ParsePost s w) := by
  have HML0 := Lib.hid hm
  have HW00 : Hid (0 < w.heap.size) := by
    obtain ⟨m, h⟩ := hm
    exact Nat.lt_of_le_of_lt (Nat.zero_le _) (World.block_lt_of_cell? _ _ h)
  have HPOG : Hid (∀ (w' : World) (v : Value) (l : List Sx) (n : Nat), Sxs w' v l → Below w.heap.size w w' → parseT s = (some (l.map Sx.k), n) → ParsePost s w (.returned (.tuple #[v, .int .i64 0, .int .i64 0])) w') := fun w' v l n h1 h2 h3 => ⟨v, l, 0, 0, rfl, h1, h2, by rw [h3]; exact ⟨rfl, rfl, rfl⟩⟩
  have HPOB : Hid (∀ (w' : World) (n : Nat), Below w.heap.size w w' → parseT s = (none, n) → ParsePost s w (.returned (.tuple #[.slice none 0 0, .int .i64 (n : Int), .int .i64 250])) w') := fun w' n h2 h3 => ⟨_, [], n, 250, rfl, ⟨Rd.nil _, by simp⟩, h2, by rw [h3]; exact ⟨rfl, rfl, rfl⟩⟩
  generalize ParsePost s w = POST at *
  have HLS : Hid (s.length ≤ 1000000000) := by show _ ≤ _; omega
  have HOK0 : Hid (RdOk ⟨s, 0, false⟩) := ⟨by simp only; omega, by simp, fun _ => by simp only; omega⟩
  have HP0 := Lib.hid (ParseAt.start s)
  clear hm hs
  go_enter Tryd.func7, Tryd.ntmps7
  go_upto_region 2 with ((with_reducible show wpList _ _ _ (Oper.mk (some 9) _ _ _ _ _ :: _) _ _); refine wpList_val rfl (exec_bld52 rfl rfl) ?_)
  obtain ⟨W0, hW0⟩ : ∃ W0, W0 = w.alloc (.cells #[strV s, .int .i64 0, .bool false] 52) := ⟨_, rfl⟩
  rw [← hW0]
  obtain ⟨br, hbr⟩ : ∃ b, b = w.heap.size := ⟨_, rfl⟩
  rw [← hbr]
  have HRB0 : Hid (Blk W0 br 52 (rdC ⟨s, 0, false⟩).toArray) := by rw [hW0, hbr]; exact Blk.new' rfl
  have HB0 : Hid (Below w.heap.size w W0) := by rw [hW0]; exact below1 _ _
  have h0 : br ≠ 0 := by have := HW00.out; omega
  have HBR : Hid (w.heap.size ≤ br) := by show _ ≤ _; omega
  have HM0 := Lib.hid (HML0.out.below HB0.out)
  clear hW0 hbr
  go_wp2
  go_loopw [6] (fun v wr => ∃ (l : List Sx) (rest : List UInt8) (n : Nat), Hid (wr.ownsRow w.heap.size 43 23 v l.length (l.flatMap fun y => encS y.s)) ∧ Hid (∀ y ∈ l, OwnX w.heap.size wr y) ∧ Hid (Blk wr br 52 (rdC ⟨rest, n, false⟩).toArray) ∧ Hid (RdOk ⟨rest, n, false⟩) ∧ Hid (MaxLen wr) ∧ Hid (Below w.heap.size w wr) ∧ Hid (ParseAt s l rest n) ∧ l.length ≤ 256) (fun _ wr => strLen br 0 wr)
  case atStart => exact ⟨[], s, 0, ⟨by simp, .inl ⟨rfl, rfl⟩⟩, Lib.hid (by simp), HRB0, HOK0, HM0, HB0, HP0, by simp⟩
  case round =>
    clear HRB0 HOK0 HM0 HB0 HP0
    rename Value => vl
    obtain ⟨l, rest, n, HO, HX, HR, HOK, HM, HB, HP, hl⟩ := hrel
    obtain ⟨wo, rfl⟩ : ∃ wo : World, wo = wr := ⟨_, rfl⟩
    obtain ⟨va, vc, rfl, hvc1, hvc2, -⟩ := owns_shape HO.out
    have HC0 : Hid (wo.cell? ⟨br, 0, none⟩ = some (strV rest)) := HR.out.list0 rfl
    by_cases hne : rest = []
    · have HNE : Hid ((!decide (rest = [])) = false) := Lib.hid (by simp [hne])
      have HD : Hid (parseT s = (some (l.map Sx.k), n)) := by have := HP.out; rw [hne] at this; exact this.done
      go_wp2_with (first | ((with_reducible show wpList _ _ _ (Oper.mk (some 14) _ _ _ _ _ :: _) _ _); refine wpList_val rfl (exec_loadStr (v := strV rest) rfl rfl HC0.out) ?_) | ((with_reducible show wpList _ _ _ (Oper.mk (some 15) _ _ _ _ _ :: _) _ _); refine wpList_val rfl (exec_neB HNE.out rfl rfl rfl) ?_))
      go_ret3
      exact HPOG.out _ _ l n (parse_sxs HO.out HX.out HD.out HLS.out) HB.out HD.out
    · have HNE : Hid ((!decide (rest = [])) = true) := Lib.hid (by simp [hne])
      have HNR : Hid (rest ≠ []) := hne
      have c1 : wo.cell? ⟨br, 1, none⟩ = some (.int .i64 (n : Int)) := HR.out.list0 rfl
      have hn9 : n ≤ 1000000000 := HOK.out.n
      clear hne
      by_cases hq : l.length = 256
      · have HF := Lib.hid (HP.out.full HNR.out hq)
        have HLQ : Hid (l.length = 256) := hq
        rw [hq] at hvc1 ⊢
        clear hq hl
        go_upto_region 5 with (first | ((with_reducible show wpList _ _ _ (Oper.mk (some 14) _ _ _ _ _ :: _) _ _); refine wpList_val rfl (exec_loadStr (v := strV rest) rfl rfl HC0.out) ?_) | ((with_reducible show wpList _ _ _ (Oper.mk (some 15) _ _ _ _ _ :: _) _ _); refine wpList_val rfl (exec_neB HNE.out rfl rfl rfl) ?_))
        refine wp_region_held_drew (S := (fun X => X.cell? ⟨br, 1, none⟩ = some (.int .i64 (n : Int)))) (by kernel_rfl) c1 (fun hHeld => ?_)
        (refine takeW (i := 0) (v := ?_) rfl (by kernel_rfl) (by kernel_rfl) (by kernel_rfl) (fun _ _ _ h => h) (by rfl) (by assumption) ?_ ?_; rotate_left; (intro W hW; (try dsimp only at hW); go_simp; try with_reducible rfl); (try simp only [Act.put, List.setIfInBounds_toArray, List.set_cons_zero, List.set_cons_succ]))
        (refine takeW (i := 1) (v := ?_) rfl (by kernel_rfl) (by kernel_rfl) (by kernel_rfl) (fun _ _ _ h => h) (by rfl) (by assumption) ?_ ?_; rotate_left; (intro W hW; (try dsimp only at hW); go_simp; try with_reducible rfl); (try simp only [Act.put, List.setIfInBounds_toArray, List.set_cons_zero, List.set_cons_succ]))
        (refine takeW (i := 2) (v := ?_) rfl (by kernel_rfl) (by kernel_rfl) (by kernel_rfl) (fun _ _ _ h => h) (by rfl) (by assumption) ?_ ?_; rotate_left; (intro W hW; (try dsimp only at hW); go_simp; try with_reducible rfl); (try simp only [Act.put, List.setIfInBounds_toArray, List.set_cons_zero, List.set_cons_succ]))
        (refine takeW (i := 3) rfl (by kernel_rfl) (by kernel_rfl) (by kernel_rfl) (fun _ _ _ h => h) (by rfl) (by assumption) (fun W hW => exec_load1 (v := .int .i64 (n : Int)) FL3 rfl rfl hW) ?_; (try simp only [Act.put, List.setIfInBounds_toArray, List.set_cons_zero, List.set_cons_succ]))
        (refine takeW (i := 4) rfl (by kernel_rfl) (by kernel_rfl) (by kernel_rfl) (fun _ _ _ h => h) (by rfl) (by assumption) (fun W hW => exec_inc hn9 rfl rfl) ?_; (try simp only [Act.put, List.setIfInBounds_toArray, List.set_cons_zero, List.set_cons_succ]))
        (refine takeW (i := 5) (v := ?_) rfl (by kernel_rfl) (by kernel_rfl) (by kernel_rfl) (fun _ _ _ h => h) (by rfl) (by assumption) ?_ ?_; rotate_left; (intro W hW; (try dsimp only at hW); go_simp; try with_reducible rfl); (try simp only [Act.put, List.setIfInBounds_toArray, List.set_cons_zero, List.set_cons_succ]))
        (refine takeW (i := 6) (v := ?_) rfl (by kernel_rfl) (by kernel_rfl) (by kernel_rfl) (fun _ _ _ h => h) (by rfl) (by assumption) ?_ ?_; rotate_left; (intro W hW; (try dsimp only at hW); go_simp; try with_reducible rfl); (try simp only [Act.put, List.setIfInBounds_toArray, List.set_cons_zero, List.set_cons_succ]))
        (refine takeW (i := 7) (v := ?_) rfl (by kernel_rfl) (by kernel_rfl) (by kernel_rfl) (fun _ _ _ h => h) (by rfl) (by assumption) ?_ ?_; rotate_left; (intro W hW; (try dsimp only at hW); go_simp; try with_reducible rfl); (try simp only [Act.put, List.setIfInBounds_toArray, List.set_cons_zero, List.set_cons_succ]))
        refine wpAnyH_done (by kernel_rfl) ?_ _
        clear hHeld
        go_wp2
        go_ret3
        exact HPOB.out _ (n + 1) HB.out.drew HF.out
      · have hq2 : ((l.length : Int) == 256) = false := by simp; omega
        have HPN := Lib.hid (fun m => HP.out.bad (m := m) HNR.out hq)
        have HPX := Lib.hid (fun (y : Sx) (r' : List UInt8) (m : Nat) => HP.out.next (r' := r') (m := m) (y := y) HNR.out hq)
        have HLQ : Hid (l.length < 256) := by show _ < _; omega
        obtain ⟨q, hqq⟩ : ∃ q, q = l.length := ⟨_, rfl⟩
        rw [← hqq] at hq2 hvc1 ⊢
        have HQQ := Lib.hid hqq
        clear hq hqq hl c1
        go_wp2_with (first | ((with_reducible show wpList _ _ _ (Oper.mk (some 14) _ _ _ _ _ :: _) _ _); refine wpList_val rfl (exec_loadStr (v := strV rest) rfl rfl HC0.out) ?_) | ((with_reducible show wpList _ _ _ (Oper.mk (some 15) _ _ _ _ _ :: _) _ _); refine wpList_val rfl (exec_neB HNE.out rfl rfl rfl) ?_) | (go_at_call 15; refine (snap_any br ⟨rest, n, false⟩ wo HR.out HM.out h0 HOK.out).mono ?_))
        rintro e W1 ⟨s2, y, rfl, hr, hg, hok, hml, hown, hst⟩
        have HR1 := Lib.hid hr
        have HOK1 := Lib.hid hok
        have HM1 := Lib.hid hml
        have HOY := Lib.hid (hown.le HB.out.size)
        have HG1 := Lib.hid hg
        have HST := Lib.hid (hst.2 rfl)
        have HB1 : Hid (Below w.heap.size w W1) := HB.out.grown hg HB.out.size (fun k hk => by cases hk; exact HBR.out)
        have HO1 : Hid (W1.ownsRow w.heap.size 43 23 (.slice va l.length vc) l.length (l.flatMap fun y => encS y.s)) := own_fr HO.out (Fr.grown hg) (fun g hgo e => own_apart HO.out HR.out (by decide) g hgo e)
        have HX1 : Hid (∀ y ∈ l, OwnX w.heap.size W1 y) := fun y hy => (HX.out y hy).fr (Fr.grown hg) (fun j e => blkF HR.out (by decide) (by decide) e)
        clear hr hg hok hml hown hst HR HOK HM HO HX HB HP HNE HG1
        rw [← HQQ.out] at HO1
        go_upto_region 7 with ((with_reducible show wpList _ _ _ (Oper.mk none _ _ _ _ _ :: _) _ _); refine wpList_boxW W41 rfl rfl rfl (encS y.s) rfl rfl (encS_one _) rfl ?_; go_must (intro W2 HX2 hal hz2; have HX2 := Lib.hid HX2; have HAL := Lib.hid hal; clear hal hz2))
        obtain ⟨b7, hb7⟩ : ∃ b, b = W1.heap.size := ⟨_, rfl⟩
        rw [← hb7] at HX2 ⊢
        clear hb7
        have HR2 := Lib.hid (HR1.out.keep HAL.out)
        have d2 : W2.cell? ⟨br, 2, none⟩ = some (.bool s2.bad) := HR2.out.list0 rfl
        obtain ⟨r2, n2, b2⟩ := s2
        have HB2 := Lib.hid (HB1.out.trans (HAL.out.mono HB1.out.size))
        cases b2 with
        | true =>
          have c1 : W2.cell? ⟨br, 1, none⟩ = some (.int .i64 (n2 : Int)) := HR2.out.list0 rfl
          have HD : Hid (parseT s = (none, n2)) := by
            have h1 := HST.out
            generalize hs : snapP rest n = o at h1
            obtain ⟨o, m⟩ := o
            cases o with
            | none => obtain ⟨_, rfl⟩ := h1; exact HPN.out _ hs
            | some p => obtain ⟨h2, _⟩ := h1; cases h2
          clear HST
          go_upto_region 8 with fail
          refine wp_region_held_drew (S := (fun X => X.cell? ⟨br, 1, none⟩ = some (.int .i64 (n2 : Int)))) (by kernel_rfl) c1 (fun hHeld => ?_)
          (refine takeW (i := 0) (v := ?_) rfl (by kernel_rfl) (by kernel_rfl) (by kernel_rfl) (fun _ _ _ h => h) (by rfl) (by assumption) ?_ ?_; rotate_left; (intro W hW; (try dsimp only at hW); go_simp; try with_reducible rfl); (try simp only [Act.put, List.setIfInBounds_toArray, List.set_cons_zero, List.set_cons_succ]))
          (refine takeW (i := 1) (v := ?_) rfl (by kernel_rfl) (by kernel_rfl) (by kernel_rfl) (fun _ _ _ h => h) (by rfl) (by assumption) ?_ ?_; rotate_left; (intro W hW; (try dsimp only at hW); go_simp; try with_reducible rfl); (try simp only [Act.put, List.setIfInBounds_toArray, List.set_cons_zero, List.set_cons_succ]))
          (refine takeW (i := 2) (v := ?_) rfl (by kernel_rfl) (by kernel_rfl) (by kernel_rfl) (fun _ _ _ h => h) (by rfl) (by assumption) ?_ ?_; rotate_left; (intro W hW; (try dsimp only at hW); go_simp; try with_reducible rfl); (try simp only [Act.put, List.setIfInBounds_toArray, List.set_cons_zero, List.set_cons_succ]))
          (refine takeW (i := 3) rfl (by kernel_rfl) (by kernel_rfl) (by kernel_rfl) (fun _ _ _ h => h) (by rfl) (by assumption) (fun W hW => exec_load1 (v := .int .i64 (n2 : Int)) FL3 rfl rfl hW) ?_; (try simp only [Act.put, List.setIfInBounds_toArray, List.set_cons_zero, List.set_cons_succ]))
          (refine takeW (i := 4) (v := ?_) rfl (by kernel_rfl) (by kernel_rfl) (by kernel_rfl) (fun _ _ _ h => h) (by rfl) (by assumption) ?_ ?_; rotate_left; (intro W hW; (try dsimp only at hW); go_simp; try with_reducible rfl); (try simp only [Act.put, List.setIfInBounds_toArray, List.set_cons_zero, List.set_cons_succ]))
          (refine takeW (i := 5) (v := ?_) rfl (by kernel_rfl) (by kernel_rfl) (by kernel_rfl) (fun _ _ _ h => h) (by rfl) (by assumption) ?_ ?_; rotate_left; (intro W hW; (try dsimp only at hW); go_simp; try with_reducible rfl); (try simp only [Act.put, List.setIfInBounds_toArray, List.set_cons_zero, List.set_cons_succ]))
          (refine takeW (i := 6) (v := ?_) rfl (by kernel_rfl) (by kernel_rfl) (by kernel_rfl) (fun _ _ _ h => h) (by rfl) (by assumption) ?_ ?_; rotate_left; (intro W hW; (try dsimp only at hW); go_simp; try with_reducible rfl); (try simp only [Act.put, List.setIfInBounds_toArray, List.set_cons_zero, List.set_cons_succ]))
          refine wpAnyH_done (by kernel_rfl) ?_ _
          clear hHeld
          go_wp2
          go_ret3
          exact HPOB.out _ n2 HB2.out.drew HD.out
        | false =>
          have HD : Hid (ParseAt s (l ++ [y]) r2 n2 ∧ r2.length < rest.length) := by
            have h1 := HST.out
            generalize hs : snapP rest n = o at h1
            obtain ⟨o, m⟩ := o
            cases o with
            | none => obtain ⟨h2, _⟩ := h1; cases h2
            | some p =>
              obtain ⟨x, r⟩ := p
              obtain ⟨h2, h3⟩ := h1
              cases h2
              have h4 : x = y.k := h3
              subst h4
              exact HPX.out y _ _ hs
          have HCB : Hid (∀ j u, (encS y.s)[j]? = some u → W2.cell? ⟨b7, 0 + j, none⟩ = some u) := HX2.out.list
          have HOW : Hid (W2.ownsRow w.heap.size 43 23 (.slice va q vc) q (l.flatMap fun y => encS y.s)) := ow_below HO1.out HAL.out
          have HWS : Hid (w.heap.size ≤ W2.heap.size) := HB2.out.size
          have hq7 : q ≤ 256 := by have := HLQ.out; have := HQQ.out; omega
          have HXY : Hid (∀ z ∈ l ++ [y], OwnX w.heap.size W2 z) := fun z hz => by
            rcases List.mem_append.1 hz with h | h
            · exact (HX1.out z h).below HAL.out
            · rw [List.mem_singleton.1 h]; exact HOY.out.below HAL.out
          have HM2 := Lib.hid (HM1.out.below HAL.out)
          clear HST HX2 HO1 HX1 HAL HR1 HM1 HB1 HOY
          go_wp2_with (first | ((with_reducible show wpList _ _ _ (Oper.mk (some 35) _ _ _ _ _ :: _) _ _); refine wpList_loadW W41 rfl rfl (x := .tmp 7) rfl (encS y.s) rfl HCB.out ?_) | ((with_reducible show wpList _ _ _ (Oper.mk (some 36) _ _ _ _ _ :: _) _ _); refine wpList_sliceW E22 (by decide) rfl rfl (encS y.s) rfl rfl ?_) | ((with_reducible show wpList _ _ _ (Oper.mk (some 37) _ _ _ _ _ :: _) _ _); refine wpList_app1 E22 rfl _ _ rfl HOW.out (encS y.s) rfl (encS_one _) rfl rfl (by omega) HWS.out ?_; intro v9 W9 ho9 hg9; have HO9 := Lib.hid ho9; have HG9 := Lib.hid hg9; clear ho9 hg9))
          have HS9 : Hid (Fr (fun j => (Value.slice va q vc).ownBlock = some j) W2 W9) := Fr.grownO HG9.out
          have HR9 : Hid (Blk W9 br 52 (rdC ⟨r2, n2, false⟩).toArray) := HR2.out.fr HS9.out (fun e => own_blk_ne HOW.out HR2.out (by decide) e)
          have HB9 : Hid (Below w.heap.size w W9) := HB2.out.grown HG9.out HWS.out (fun k hk => (HOW.out.lt k hk).1)
          have HM9 : Hid (MaxLen W9) := HML0.out.below HB9.out
          have HX9 : Hid (∀ z ∈ l ++ [y], OwnX w.heap.size W9 z) := fun z hz => by
            have h := HXY.out z hz
            have far : ∀ {e : TypeId} {st n : Nat} {v : Value} {xs : List Value}, e ≠ 43 → W2.ownsRow w.heap.size e st v n xs → W9.ownsRow w.heap.size e st v n xs := fun he h => own_fr h HS9.out (fun g hg e2 => own_own h HOW.out he g hg e2)
            exact ⟨far (by decide) h.out, h.ob, far (by decide) h.inn, fun m hm => ⟨far (by decide) (h.each m hm).1, (h.each m hm).2⟩⟩
          have HQ9 : Hid (W9.ownsRow w.heap.size 43 23 v9 (l ++ [y]).length ((l ++ [y]).flatMap fun y => encS y.s)) := by
            have := HO9.out
            rw [HQQ.out] at this
            exact Lib.hid (by simpa using this)
          have e1 : strLen br 0 W9 = r2.length := strLen_of (HR9.out.list0 rfl)
          have e2 : strLen br 0 wo = rest.length := strLen_of HC0.out
          have HDD := Lib.hid HD.out.2
          clear HS9 HG9 HO9 HOW HXY HB2 HR2 HCB
          go_wp2
          go_roundw
          case rel => exact ⟨l ++ [y], r2, n2, HQ9, HX9, HR9, HOK1, HM9, HB9, Lib.hid HD.out.1, by have := HLQ.out; simp; omega⟩
          case measure => rw [e1, e2]; exact HDD.out
end Go.Proofs.YtjaaldeaknmmbaaDoor
