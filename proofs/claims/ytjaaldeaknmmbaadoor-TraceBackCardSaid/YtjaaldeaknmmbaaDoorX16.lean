/- The two laws: the walks. -/
import Derived.Test.YtjaaldeaknmmbaaDoorX15
import Derived.Test.YtjaaldeaknmmbaaDoorS12
namespace Go.Proofs.YtjaaldeaknmmbaaDoor
open Go.RowKit Go.Shelf

theorem bytes_inj : ∀ {a b : List Int}, (∀ c ∈ a, 0 ≤ c ∧ c ≤ 255) → (∀ c ∈ b, 0 ≤ c ∧ c ≤ 255) → bytesOf a = bytesOf b → a = b
  | [], [], _, _, _ => rfl
  | [], y :: b, _, _, h => by simp [bytesOf] at h
  | x :: a, [], _, _, h => by simp [bytesOf] at h
  | x :: a, y :: b, ha, hb, h => by
    simp only [bytesOf, List.map_cons, List.cons.injEq] at h
    have h1 := ha x (by simp)
    have h2 := hb y (by simp)
    have h3 := congrArg UInt8.toNat h.1
    rw [UInt8.toNat_ofNat', UInt8.toNat_ofNat'] at h3
    have e : x = y := by omega
    rw [e, bytes_inj (fun c hc => ha c (by simp [hc])) (fun c hc => hb c (by simp [hc])) (show bytesOf a = bytesOf b from h.2)]
theorem ms_inj : ∀ {a b : List Mx}, (∀ m ∈ a, ∀ c ∈ m.d.l, 0 ≤ c ∧ c ≤ 255) → (∀ m ∈ b, ∀ c ∈ m.d.l, 0 ≤ c ∧ c ≤ 255) → a.map Mx.k = b.map Mx.k → a.map mxk = b.map mxk
  | [], [], _, _, _ => rfl
  | [], y :: b, _, _, h => by simp at h
  | x :: a, [], _, _, h => by simp at h
  | x :: a, y :: b, ha, hb, h => by
    simp only [List.map_cons, List.cons.injEq] at h ⊢
    obtain ⟨h1, h2⟩ := h
    unfold Mx.k at h1
    simp only [Prod.mk.injEq] at h1
    refine ⟨?_, ms_inj (fun m hm => ha m (by simp [hm])) (fun m hm => hb m (by simp [hm])) h2⟩
    unfold mxk
    rw [h1.1, bytes_inj (ha x (by simp)) (hb y (by simp)) h1.2]
theorem same_of_k {W W' : World} {x y : Sx} (hx : GoodX W x) (hy : GoodX W' y) (h : x.k = y.k) : SameS x y := by
  unfold Sx.k at h
  simp only [Sk.mk.injEq] at h
  obtain ⟨h1, h2, h3, h4, h5, h6, h7, h8, h9, h10, h11, h12, h13, h14, h15, h16, h17, h18, h19, h20, h21, h22, h23⟩ := h
  refine ⟨h1, h2, h3, ?_, ?_, h4, h6, h5, h19, bytes_inj hx.out.2 hy.out.2 h22, h20, h21, ms_inj (fun m hm => (hx.each m hm).1.2) (fun m hm => (hy.each m hm).1.2) h23⟩
  · unfold Sn.c; rw [h7, h8, h9, h10, h11]
  · unfold Sn.vs; rw [h12, h13, h14, h15, h16, h17, h18]
theorem sameL_of_k {W W' : World} : ∀ {l m : List Sx}, (∀ x ∈ l, GoodX W x) → (∀ x ∈ m, GoodX W' x) → l.map Sx.k = m.map Sx.k → sameL l m = true
  | [], [], _, _, _ => rfl
  | [], y :: b, _, _, h => by simp at h
  | x :: a, [], _, _, h => by simp at h
  | x :: a, y :: b, ha, hb, h => by
    simp only [List.map_cons, List.cons.injEq] at h
    have h1 := same_of_k (ha x (by simp)) (hb y (by simp)) h.1
    have h2 := sameL_of_k (fun z hz => ha z (by simp [hz])) (fun z hz => hb z (by simp [hz])) h.2
    unfold sameL at h2 ⊢
    simp only [Bool.and_eq_true, decide_eq_true_eq, List.length_cons, List.zip_cons_cons, List.all_cons] at h2 ⊢
    exact ⟨by omega, h1, h2.2⟩
theorem exec_eqB {w : World} {o : Oper} {ac : Act} {X Y : Operand} {ty : TypeId} {x y : List UInt8} {b : Bool} (hb : decide (x = y) = b) (ho : o.op = .binOp .eql 9 X Y ty) (hx : ac.eval X = strV x) (hy : ac.eval Y = strV y) : (execOp ac.eval o).run Tryd.prog w = .ok (.value (.bool b)) w := by
  subst hb
  exact exec_eqS ho hx hy
/-- What few asks, of snaps that are read. -/
theorem few_small {l : List Sx} {w : World} (h : ∀ y ∈ l, GoodX w y) (hs : ∀ x ∈ l.map Sx.few, Short x.1 x.2) : ∀ x ∈ l, Small x := fun x hx => by
  obtain ⟨h1, h2, h3⟩ := hs x.few (List.mem_map_of_mem hx)
  have hg := h x hx
  obtain ⟨a, c, e, _⟩ := hg.out.1.shape
  obtain ⟨a', c', e', _⟩ := hg.inn.shape
  simp only [Value.slice.injEq] at e e'
  have h1' : x.s.on ≤ 5000 := h1
  have h2' : x.s.nn ≤ 50 := h2
  refine ⟨by omega, by omega, fun m hm => ?_⟩
  have := h3 m.ms (List.mem_map_of_mem hm)
  exact this
theorem print_max {l : List Sx} {w : World} (h : ∀ y ∈ l, GoodX w y) (hs : ∀ x ∈ l, Small x) : (printT (l.map Sx.k)).length ≤ 600000 * l.length := by
  unfold printT
  rw [List.flatMap_map]
  exact flat_max _ _ _ fun x hx => oneT_max (h x hx) (hs x hx)
set_option maxRecDepth 100000 in
set_option maxHeartbeats 3200000 in
theorem texts_any (l : List Sx) (t : List UInt8) (v : Value) (w : World) (h : Sxs w v l) (hm : MaxLen w) : Calls Tryd.prog 3 #[v, strV t] w fun e w' => e = .returned (.bool true) ∧ Below w.heap.size w w' := by
  have HPO : Hid (∀ w', Below w.heap.size w w' → (fun e w' => e = Ending.returned (.bool true) ∧ Below w.heap.size w w') (.returned (.bool true)) w') := fun w' h => ⟨rfl, h⟩
  generalize (fun e w' => e = Ending.returned (.bool true) ∧ Below w.heap.size w w') = POST at *
  have HX := Lib.hid h
  have HM := Lib.hid hm
  clear h hm
  go_enter Tryd.func3, Tryd.ntmps3
  go_wp2_with (go_at_call 5; refine (begun_any w).mono ?_)
  rintro e w1 ⟨rfl, hb1⟩
  have HB1 := Lib.hid hb1
  clear hb1
  go_wp2_with (go_at_call 6; refine (few_any (l.map Sx.few) v w1 (by rw [List.map_map]; exact Rd.mapped (f := Sx.s) (HX.out.1.below HB1.out)) (fun x hx => ?_)).mono ?_)
  · obtain ⟨y, hy, rfl⟩ := List.mem_map.1 hx
    exact ((HX.out.2 y hy).below HB1.out).few
  rintro e w2 ⟨⟨b, rfl, hbt⟩, hb2⟩
  have HB2 := Lib.hid (HB1.out.trans (hb2.mono HB1.out.size))
  have HBT := Lib.hid hbt
  clear hb2 hbt HB1
  cases b with
  | false =>
    go_wp2_with (go_at_call 5; refine (begun_any w2).mono ?_)
    rintro e w3 ⟨rfl, hb3⟩
    go_wp2
    exact HPO.out _ (HB2.out.trans (hb3.mono HB2.out.size))
  | true =>
    obtain ⟨hl, hsh⟩ := HBT.out (by first | rfl | trivial)
    rw [List.length_map] at hl
    have HLL : Hid (l.length ≤ 260) := hl
    have HSM := Lib.hid (few_small HX.out.2 hsh)
    have HPL : Hid ((printT (l.map Sx.k)).length ≤ 1000000000) := by have := print_max HX.out.2 HSM.out; show _ ≤ _; omega
    clear hl hsh HBT
    by_cases ht : t.length ≤ 60000
    rotate_left
    · have ht2 : (60000 : Int) < (t.length : Int) := by omega
      clear ht
      go_wp2_with (first | ((with_reducible show wpList _ _ _ (Oper.mk (some 20) _ _ _ _ _ :: _) _ _); refine wpList_val rfl (exec_lenS rfl rfl) ?_) | (go_at_call 5; refine (begun_any w2).mono ?_))
      rintro e w3 ⟨rfl, hb3⟩
      go_wp2
      exact HPO.out _ (HB2.out.trans (hb3.mono HB2.out.size))
    · have ht2 : ¬ (60000 : Int) < (t.length : Int) := by omega
      have HT : Hid (t.length ≤ 900000000) := by show _ ≤ _; omega
      clear ht
      go_wp2_with (first | ((with_reducible show wpList _ _ _ (Oper.mk (some 20) _ _ _ _ _ :: _) _ _); refine wpList_val rfl (exec_lenS rfl rfl) ?_) | (go_at_call 7; refine (parse_any t w2 (HM.out.below HB2.out) HT.out).mono ?_))
      rintro e w3 ⟨v7, l7, n7, c7, rfl, hx7, hb3, hm7⟩
      have HX7 := Lib.hid hx7
      have HM7 := Lib.hid hm7
      have HB3 := Lib.hid (HB2.out.trans (hb3.mono HB2.out.size))
      clear hx7 hm7 hb3 HB2
      go_wp2_with (go_at_call 8; refine (rparse_any t w3 HT.out).mono ?_)
      rintro e w4 ⟨v8, l8, n8, c8, rfl, hx8, hb4, hm8⟩
      have HALL : Hid (l7.map Sx.k = l8.map Sx.k ∧ n8 = n7 ∧ c8 = c7) := by
        have h1 := HM7.out
        generalize parseT t = o at h1 hm8
        obtain ⟨o, m⟩ := o
        cases o with
        | none =>
          obtain ⟨rfl, rfl, rfl⟩ := h1
          obtain ⟨rfl, rfl, rfl⟩ := hm8
          exact ⟨rfl, rfl, rfl⟩
        | some L =>
          obtain ⟨rfl, rfl, rfl⟩ := h1
          obtain ⟨e, rfl, rfl⟩ := hm8
          exact ⟨e.symm, rfl, rfl⟩
      obtain ⟨e1, e2, e3⟩ := HALL.out
      have HSL : Hid (sameL l7 l8 = true) := sameL_of_k HX7.out.2 hx8.2 e1
      subst e2 e3
      have HX8 := Lib.hid hx8
      have HX74 := Lib.hid (HX7.out.below hb4)
      have HB4 := Lib.hid (HB3.out.trans (hb4.mono HB3.out.size))
      clear hx8 hm8 hb4 e1 HALL HM7 HX7 HB3
      go_wp2_with (go_at_call 9; refine (print_any l v w4 (HX.out.below HB4.out) HPL.out).mono ?_)
      rintro e w5 ⟨rfl, hb5⟩
      have HX75 := Lib.hid (HX74.out.below hb5)
      have HX85 := Lib.hid (HX8.out.below hb5)
      have HB5 := Lib.hid (HB4.out.trans (hb5.mono HB4.out.size))
      clear hb5 HX74 HX8 HB4
      go_wp2_with (go_at_call 10; refine (rprint_any l v w5 (HX.out.below HB5.out) HSM.out (by have := HLL.out; omega)).mono ?_)
      rintro e w6 ⟨rfl, hb6⟩
      have HX76 := Lib.hid (HX75.out.below hb6)
      have HX86 := Lib.hid (HX85.out.below hb6)
      have HB6 := Lib.hid (HB5.out.trans (hb6.mono HB5.out.size))
      have HCS : Hid (Calls Tryd.prog 11 #[v7, v8] w6 (SamePost true w6)) := by rw [← HSL.out]; exact rsameL_any l7 l8 v7 v8 w6 HX76.out HX86.out
      clear hb6 HX75 HX85 HB5 HSL HX76 HX86
      go_wp2_with (first | ((with_reducible show wpList _ _ _ (Oper.mk (some 40) _ _ _ _ _ :: _) _ _); refine wpList_val rfl (exec_eqB (b := true) (decide_eq_true rfl) rfl rfl rfl) ?_) | (go_at_call 11; refine (HCS.out).mono ?_))
      rintro e w7 ⟨rfl, hb7⟩
      go_wp2
      exact HPO.out _ (HB6.out.trans (hb7.mono HB6.out.size))
set_option maxRecDepth 100000 in
set_option maxHeartbeats 3200000 in
theorem back_any (l : List Sx) (t : List UInt8) (v : Value) (w : World) (h : Sxs w v l) (hm : MaxLen w) : Calls Tryd.prog 4 #[v, strV t] w fun e w' => e = .returned (.bool true) ∧ Below w.heap.size w w' := by
  have HPO : Hid (∀ w', Below w.heap.size w w' → (fun e w' => e = Ending.returned (.bool true) ∧ Below w.heap.size w w') (.returned (.bool true)) w') := fun w' h => ⟨rfl, h⟩
  generalize (fun e w' => e = Ending.returned (.bool true) ∧ Below w.heap.size w w') = POST at *
  have HX := Lib.hid h
  have HM := Lib.hid hm
  obtain ⟨va, vc, rfl, hvc, hvcm, -⟩ := h.1.shape
  obtain ⟨q, hq⟩ : ∃ q, q = l.length := ⟨_, rfl⟩
  rw [← hq] at hvc ⊢
  have HQ := Lib.hid hq
  have HXQ : Hid (Sxs w (.slice va q vc) l) := by rw [hq]; exact h
  clear h hm hq
  go_enter Tryd.func4, Tryd.ntmps4
  go_wp2_with (go_at_call 5; refine (begun_any w).mono ?_)
  rintro e w1 ⟨rfl, hb1⟩
  have HB1 := Lib.hid hb1
  clear hb1
  go_wp2_with (go_at_call 6; refine (few_any (l.map Sx.few) _ w1 (by rw [List.map_map]; exact Rd.mapped (f := Sx.s) (HXQ.out.1.below HB1.out)) (fun x hx => ?_)).mono ?_)
  · obtain ⟨y, hy, rfl⟩ := List.mem_map.1 hx
    exact ((HX.out.2 y hy).below HB1.out).few
  rintro e w2 ⟨⟨b, rfl, hbt⟩, hb2⟩
  have HB2 := Lib.hid (HB1.out.trans (hb2.mono HB1.out.size))
  have HBT := Lib.hid hbt
  clear hb2 hbt HB1
  cases b with
  | false =>
    go_wp2_with (go_at_call 5; refine (begun_any w2).mono ?_)
    rintro e w3 ⟨rfl, hb3⟩
    go_wp2
    exact HPO.out _ (HB2.out.trans (hb3.mono HB2.out.size))
  | true =>
    obtain ⟨hl, hsh⟩ := HBT.out (by first | rfl | trivial)
    rw [List.length_map] at hl
    have HSM := Lib.hid (few_small HX.out.2 hsh)
    have HPL : Hid ((printT (l.map Sx.k)).length ≤ 900000000) := by have := print_max HX.out.2 HSM.out; show _ ≤ _; omega
    clear hsh HBT
    by_cases ht : t.length ≤ 60000
    rotate_left
    · have ht2 : (60000 : Int) < (t.length : Int) := by omega
      clear ht
      go_wp2_with (first | ((with_reducible show wpList _ _ _ (Oper.mk (some 20) _ _ _ _ _ :: _) _ _); refine wpList_val rfl (exec_lenS rfl rfl) ?_) | (go_at_call 5; refine (begun_any w2).mono ?_))
      rintro e w3 ⟨rfl, hb3⟩
      go_wp2
      exact HPO.out _ (HB2.out.trans (hb3.mono HB2.out.size))
    · have ht2 : ¬ (60000 : Int) < (t.length : Int) := by omega
      have HT : Hid (t.length ≤ 60000) := ht
      clear ht
      go_upto_if 26 with ((with_reducible show wpList _ _ _ (Oper.mk (some 20) _ _ _ _ _ :: _) _ _); refine wpList_val rfl (exec_lenS rfl rfl) ?_)
      go_cut [5, 6, 7] from 26 to 45 (fun _ _ _ wx => Hid (Below w.heap.size w wx))
      case first =>
        by_cases h256 : q ≤ 256
        rotate_left
        · have h256' : ¬ (q : Int) ≤ 256 := by omega
          go_wp2_with fail
          go_meet
          exact HB2
        · have h256' : (q : Int) ≤ 256 := by omega
          have HL256 : Hid (l.length ≤ 256) := by have := HQ.out; show _ ≤ _; omega
          go_wp2_with (go_at_call 9; refine (print_any l _ w2 (HXQ.out.below HB2.out) (Nat.le_trans HPL.out (by decide))).mono ?_)
          rintro e w3 ⟨rfl, hb3⟩
          have HB3 := Lib.hid (HB2.out.trans (hb3.mono HB2.out.size))
          clear hb3
          go_wp2_with (go_at_call 7; refine (parse_any (printT (l.map Sx.k)) w3 (HM.out.below HB3.out) HPL.out).mono ?_)
          rintro e w4 ⟨v7, l7, n7, c7, rfl, hx7, hb4, hm7⟩
          obtain ⟨n', hpp⟩ := parse_print (l := l.map Sx.k) (fun x hx => by
            obtain ⟨y, hy, rfl⟩ := List.mem_map.1 hx
            exact (HX.out.2 y hy).fits (HSM.out y hy)) (by rw [List.length_map]; exact HL256.out)
          rw [hpp] at hm7
          obtain ⟨e1, e2, e3⟩ := hm7
          subst e2 e3
          have HB4 := Lib.hid (HB3.out.trans (hb4.mono HB3.out.size))
          have HCS : Hid (Calls Tryd.prog 11 #[v7, .slice va q vc] w4 (SamePost true w4)) := by
            have := rsameL_any l7 l v7 (.slice va q vc) w4 hx7 (HXQ.out.below HB4.out)
            rwa [sameL_of_k hx7.2 HX.out.2 e1] at this
          clear hx7 hb4 hpp e1
          go_wp2_with (go_at_call 11; refine (HCS.out).mono ?_)
          rintro e w5 ⟨rfl, hb5⟩
          have HB5 := Lib.hid (HB4.out.trans (hb5.mono HB4.out.size))
          go_wp2_with fail
          go_meet
          exact HB5
      case rest =>
        rename World => w3
        have HB3 : Hid (Below w.heap.size w w3) := hcut
        clear hcut HB2
        go_wp2_with (go_at_call 7; refine (parse_any t w3 (HM.out.below HB3.out) (Nat.le_trans HT.out (by decide))).mono ?_)
        rintro e w4 ⟨v8, l8, n8, c8, rfl, hx8, hb4, hm8⟩
        have HB4 := Lib.hid (HB3.out.trans (hb4.mono HB3.out.size))
        generalize hpt : parseT t = o at hm8
        obtain ⟨o, m⟩ := o
        cases o with
        | none =>
          obtain ⟨rfl, rfl, rfl⟩ := hm8
          clear hx8 hb4 hpt
          go_wp2
          exact HPO.out _ HB4.out
        | some L =>
          obtain ⟨rfl, rfl, rfl⟩ := hm8
          have HPP : Hid (printT (l8.map Sx.k) = t) := print_parse hpt
          have HCP : Hid (Calls Tryd.prog 9 #[v8] w4 (fun e w' => e = .returned (strV t) ∧ Below w4.heap.size w4 w')) := by
            have := print_any l8 v8 w4 hx8 (by rw [HPP.out]; have := HT.out; omega)
            rwa [HPP.out] at this
          clear hx8 hb4 hpt HPP
          go_wp2_with (first | ((with_reducible show wpList _ _ _ (Oper.mk (some 58) _ _ _ _ _ :: _) _ _); refine wpList_val rfl (exec_eqB (b := true) (decide_eq_true rfl) rfl rfl rfl) ?_) | (go_at_call 9; refine (HCP.out).mono ?_))
          rintro e w5 ⟨rfl, hb5⟩
          go_wp2_with ((with_reducible show wpList _ _ _ (Oper.mk (some 58) _ _ _ _ _ :: _) _ _); refine wpList_val rfl (exec_eqB (b := true) (decide_eq_true rfl) rfl rfl rfl) ?_)
          exact HPO.out _ (HB4.out.trans (hb5.mono HB4.out.size))
end Go.Proofs.YtjaaldeaknmmbaaDoor
