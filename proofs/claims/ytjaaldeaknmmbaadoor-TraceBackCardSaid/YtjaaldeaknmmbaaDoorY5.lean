/- The program's line of a text: into the builder. -/
import Derived.Test.YtjaaldeaknmmbaaDoorY4
import Derived.Test.YtjaaldeaknmmbaaDoorBs
namespace Go.Proofs.YtjaaldeaknmmbaaDoor
open Go.RowKit Go.Shelf

theorem ok_below {e : TypeId} {bo : Option Nat} {a w w' : World} (h : Lib.OthersKept e bo a w) (hb : Below w.heap.size w w') : Lib.OthersKept e bo a w' := by
  intro k x hk hkb hx
  have h1 := h k x hk hkb hx
  rw [hb.block k (Array.getElem?_eq_some_iff.1 h1).1]
  exact h1
theorem Bld.below {B b : Nat} {l : List UInt8} {W W' : World} (h : Bld B b l W) (hb : Below W.heap.size W W') : Bld B b l W' := by
  have k : ∀ p, Lib.BuilderAtF 64 5 B b p (Lib.byteCells l) W → Lib.BuilderAtF 64 5 B b p (Lib.byteCells l) W' := fun p h => by
    have hlt := h.lt
    obtain ⟨hB, v, hv, hown, hne⟩ := h
    exact ⟨hB, v, (hb.block b hlt).trans hv, hown.kept (row := none) ⟨hb.os, hb.tape, hb.output, hb.size, fun k hk _ => hb.block k hk⟩ (Classical.em _), hne⟩
  exact h.elim (fun x => .inl (k _ x)) (fun x => .inr (k _ x))
theorem BPost.below {B b : Nat} {l : List UInt8} {w W W' : World} (h : BPost B b l w W) (hb : Below W.heap.size W W') (hB : B ≤ w.heap.size := by assumption) : BPost B b l w W' :=
  ⟨h.1.below hb, h.2.1.trans (hb.mono (Nat.le_trans hB h.2.2.2)), ok_below h.2.2.1 hb, Nat.le_trans h.2.2.2 hb.size⟩
theorem BPost.trans {B b : Nat} {l m : List UInt8} {w W W' : World} (h : BPost B b l w W) (k : BPost B b m W W') : BPost B b m w W' :=
  ⟨k.1, h.2.1.trans k.2.1, h.2.2.1.trans k.2.2.1, Nat.le_trans h.2.2.2 k.2.2.2⟩
theorem BPost.drew {B b : Nat} {l : List UInt8} {w W : World} (h : BPost B b l w W) : BPost B b l w W.drew := ⟨h.1, h.2.1.drew, h.2.2.1.drew, h.2.2.2⟩
theorem BPost.refl {B b : Nat} {l : List UInt8} {w : World} (h : Bld B b l w) : BPost B b l w w := ⟨h, Below.refl _ _, Lib.OthersKept.refl _ _ _, Nat.le_refl _⟩
/-- A row that lies in no block of bytes, and not in block b. -/
def Rw (t : TypeId) (b : Nat) (w : World) (v : Value) (cs : List Value) : Prop :=
  (v = .slice none 0 0 ∧ cs = []) ∨ ∃ g, v = .slice (some ⟨g, 0, none⟩) cs.length cs.length ∧ g ≠ b ∧ w.heap[g]? = some (.cells cs.toArray t (0, 0))
theorem Rw.kept {t : TypeId} {b : Nat} {w w' : World} {v : Value} {cs : List Value} (h : Rw t b w v cs) (ht : t ≠ 5) (hk : Lib.OthersKept 5 (some b) w w') : Rw t b w' v cs := by
  rcases h with h | ⟨g, h1, h2, h3⟩
  · exact .inl h
  · exact .inr ⟨g, h1, h2, hk g _ h3 (by simpa using h2) (fun c fz e => by cases e; exact ht rfl)⟩
theorem Rw.below {t : TypeId} {b : Nat} {w w' : World} {v : Value} {cs : List Value} (h : Rw t b w v cs) (hk : Below w.heap.size w w') : Rw t b w' v cs := by
  rcases h with h | ⟨g, h1, h2, h3⟩
  · exact .inl h
  · exact .inr ⟨g, h1, h2, by rw [hk.block g (Array.getElem?_eq_some_iff.1 h3).1]; exact h3⟩
theorem Rw.shape {t : TypeId} {b : Nat} {w : World} {v : Value} {cs : List Value} (h : Rw t b w v cs) : ∃ a, v = .slice a cs.length cs.length := by
  rcases h with ⟨rfl, rfl⟩ | ⟨g, h1, _⟩
  · exact ⟨_, rfl⟩
  · exact ⟨_, h1⟩
theorem Rw.cell {t : TypeId} {b : Nat} {w : World} {v : Value} {cs : List Value} (h : Rw t b w v cs) {j : Nat} {u : Value} (hj : cs[j]? = some u) : ∃ g, v = .slice (some ⟨g, 0, none⟩) cs.length cs.length ∧ w.cell? ⟨g, j, none⟩ = some u := by
  rcases h with ⟨rfl, rfl⟩ | ⟨g, h1, _, h3⟩
  · simp at hj
  · refine ⟨g, h1, ?_⟩
    rw [Lib.cell_of_heap h3]
    simpa using hj
theorem jt_snoc {x y : List UInt8} {xs : List (List UInt8)} {k : Nat} (h : xs[k]? = some y) : joinB 32 (x :: xs.take (k + 1)) = joinB 32 (x :: xs.take k) ++ 32 :: y := by
  obtain ⟨hk, e⟩ := List.getElem?_eq_some_iff.1 h
  rw [List.take_succ_eq_append_getElem hk, e, joinB_snoc]
theorem jt_le (x : List UInt8) (xs : List (List UInt8)) : ∀ (n k : Nat), k + n = xs.length → (joinB 32 (x :: xs.take k)).length ≤ (joinB 32 (x :: xs)).length
  | 0, k, h => by rw [List.take_of_length_le (by omega)]; exact Nat.le_refl _
  | n + 1, k, h => by
    have := jt_le x xs n (k + 1) (by omega)
    rw [jt_snoc (List.getElem?_eq_getElem (l := xs) (i := k) (by omega))] at this
    simp at this
    omega
theorem exec_loadStr {w : World} {o : Oper} {ac : Act} {x : Operand} {a : Addr} {v : Value} (ho : o.op = .load 9 x) (hx : ac.eval x = .pointer (some a)) (hc : w.cell? a = some v) : (execOp ac.eval o).run Tryd.prog w = .ok (.value v) w :=
  exec_load1 ⟨⟨_, Tryd.underlying9, rfl⟩, by kernel_rfl⟩ ho hx hc
set_option maxHeartbeats 1600000 in
set_option maxRecDepth 100000 in
theorem line_any (B b : Nat) (l first : List UInt8) (ns : List Int) (ws : List (List UInt8)) (nv wv : Value) (w : World) (h : Bld B b l w) (hn : Rw 3 b w nv (ns.map (Value.int .i64))) (hw : Rw 9 b w wv (ws.map strV)) (hi : ∀ n ∈ ns, inI n) (hns : ns.length ≤ 1000) (hws : ws.length ≤ 1000)
    (hlen : l.length + (joinB 32 (first :: (ns.map decZ ++ ws))).length + 1 ≤ 1000000000000) (hB : B ≤ w.heap.size) :
    Calls Tryd.prog 17 #[.pointer (some ⟨b, 0, none⟩), strV first, nv, wv] w fun e w' => e = .returned (.tuple #[]) ∧ BPost B b (l ++ lineW (first :: (ns.map decZ ++ ws))) w w' := by
  have HPO : Hid (∀ (w' : World) (t : List UInt8), BPost B b t w w' → t = l ++ lineW (first :: (ns.map decZ ++ ws)) → (fun e w' => e = Ending.returned (.tuple #[]) ∧ BPost B b (l ++ lineW (first :: (ns.map decZ ++ ws))) w w') (.returned (.tuple #[])) w') := fun w' t h1 h2 => by subst h2; exact ⟨rfl, h1⟩
  generalize (fun e w' => e = Ending.returned (.tuple #[]) ∧ BPost B b (l ++ lineW (first :: (ns.map decZ ++ ws))) w w') = POST at *
  obtain ⟨na, hna⟩ := hn.shape
  obtain ⟨wa, hwa⟩ := hw.shape
  rw [List.length_map] at hna hwa
  subst hna hwa
  obtain ⟨q, hq⟩ : ∃ q, q = ns.length := ⟨_, rfl⟩
  obtain ⟨r, hr⟩ : ∃ r, r = ws.length := ⟨_, rfl⟩
  obtain ⟨xs, hxs⟩ : ∃ xs, xs = ns.map decZ ++ ws := ⟨_, rfl⟩
  have HX1 : Hid (∀ k n, ns[k]? = some n → xs[k]? = some (decZ n)) := fun k n h => by
    have hk := (List.getElem?_eq_some_iff.1 h).1
    rw [hxs, List.getElem?_append_left (by simpa using hk), List.getElem?_map, h]; rfl
  have HX2 : Hid (∀ k y, ws[k]? = some y → xs[q + k]? = some y) := fun k y h => by
    rw [hxs, List.getElem?_append_right (by simp [hq]), ← h]; simp [hq]
  have HXL : Hid (xs.length = q + r) := by show _ = _; rw [hxs, hq, hr]; simp
  rw [← hxs] at HPO hlen
  rw [← hq] at hn hns ⊢
  rw [← hr] at hw hws ⊢
  have HJ : Hid (∀ k, k ≤ q + r → l.length + (joinB 32 (first :: xs.take k)).length + 1 ≤ 1000000000000) := fun k hk => by
    have := jt_le first xs (q + r - k) k (by rw [HXL.out]; omega)
    omega
  have HN := Lib.hid hn
  have HWR := Lib.hid hw
  have HQ : Hid (q = ns.length) := hq
  have HR : Hid (r = ws.length) := hr
  have HI := Lib.hid hi
  have HBS := Lib.hid hB
  clear hn hw hi hxs hlen hq hr
  go_enter Tryd.func17, Tryd.ntmps17
  go_wp2_with (go_at_call 31; refine (wstr_any B b l first _ h (by have := HJ.out 0 (by omega); simp [joinB] at this; omega) HBS.out).mono ?_)
  rintro e w1 ⟨rfl, hp1⟩
  have HP1 := Lib.hid hp1
  clear hp1 h hB
  go_wp2
  go_loopw [9, 19] (fun _ i wr => ∃ (k : Nat) (acc : List UInt8), k ≤ q ∧ i = .int .i64 k ∧ Hid (acc = l ++ joinB 32 (first :: xs.take k)) ∧ Hid (BPost B b acc w wr)) (fun _ i _ => q - (intOf i).toNat)
  case atStart => exact ⟨0, l ++ first, Nat.zero_le _, rfl, Lib.hid (by simp [joinB]), HP1.out⟩
  case round =>
    clear HP1
    obtain ⟨k, acc, hk, rfl, HA, HP⟩ := hrel
    obtain ⟨wo, rfl⟩ : ∃ wo : World, wo = wr := ⟨_, rfl⟩
    by_cases hlt : k < q
    · obtain ⟨n, hs⟩ : ∃ n, ns[k]? = some n := ⟨_, List.getElem?_eq_getElem (by rw [← HQ.out]; exact hlt)⟩
      obtain ⟨g, hg, hc⟩ := (HN.out.kept (by decide) HP.out.2.2.1).cell (j := k) (u := .int .i64 n) (by rw [List.getElem?_map, hs]; rfl)
      rw [List.length_map, ← HQ.out] at hg
      simp only [Value.slice.injEq, and_true] at hg
      subst hg
      have HC := Lib.hid hc
      have HI1 : Hid (inI n) := HI.out n (List.mem_of_getElem? hs)
      have HA2 : Hid ((acc ++ [32]) ++ decZ n = l ++ joinB 32 (first :: xs.take (k + 1))) := by show _ = _; rw [jt_snoc (HX1.out k n hs), HA.out]; simp
      have HTK : Hid (((acc ++ [32]) ++ decZ n).length ≤ 1000000000000) := by show _ ≤ _; rw [HA2.out, List.length_append]; have := HJ.out (k + 1) (by omega); omega
      clear hc hs HA HI
      have HI := HI1
      go_wp2_with (first | ((with_reducible show wpList _ _ _ (Oper.mk (some 22) _ _ _ _ _ :: _) _ _); refine wpList_val rfl (exec_load1 (v := .int .i64 n) FL3 rfl rfl HC.out) ?_) | (go_at_call 32; refine (wbyte_any B b acc 32 _ HP.out.1 (by have := HTK.out; simp at this; omega) (Nat.le_trans HBS.out HP.out.2.2.2)).mono ?_))
      rintro e w1 ⟨rfl, hp1⟩
      have HP1 := Lib.hid (HP.out.trans hp1)
      clear hp1 HP HC
      go_upto_region 5 with fail
      refine wp_region_held_drew (S := (fun _ => True)) (by kernel_rfl) trivial (fun hHeld => ?_)
      (refine takeW (i := 0) (v := ?_) rfl (by kernel_rfl) (by kernel_rfl) (by kernel_rfl) (fun _ _ _ h => h) (by rfl) (by assumption) ?_ ?_; rotate_left; (intro W hW; (try dsimp only at hW); go_simp; try with_reducible rfl); (try simp only [Act.put, List.setIfInBounds_toArray, List.set_cons_zero, List.set_cons_succ]))
      (refine takeW (i := 1) (v := ?_) rfl (by kernel_rfl) (by kernel_rfl) (by kernel_rfl) (fun _ _ _ h => h) (by rfl) (by assumption) ?_ ?_; rotate_left; (intro W hW; (try dsimp only at hW); go_simp; try with_reducible rfl); (try simp only [Act.put, List.setIfInBounds_toArray, List.set_cons_zero, List.set_cons_succ]))
      (refine takeW (i := 2) (v := ?_) rfl (by kernel_rfl) (by kernel_rfl) (by kernel_rfl) (fun _ _ _ h => h) (by rfl) (by assumption) ?_ ?_; rotate_left; (intro W hW; (try dsimp only at hW); go_simp; try with_reducible rfl); (try simp only [Act.put, List.setIfInBounds_toArray, List.set_cons_zero, List.set_cons_succ]))
      (refine takeW (i := 3) (v := ?_) rfl (by kernel_rfl) (by kernel_rfl) (by kernel_rfl) (fun _ _ _ h => h) (by rfl) (by assumption) ?_ ?_; rotate_left; (intro W hW; (try dsimp only at hW); go_simp; try with_reducible rfl); (try simp only [Act.put, List.setIfInBounds_toArray, List.set_cons_zero, List.set_cons_succ]))
      refine takeC (i := 4) rfl (by kernel_rfl) (by rfl) (fun K hK => ?_)
      go_simp
      refine (number_any n _ HI.out.1 HI.out.2).mono ?_
      rintro e w2 ⟨rfl, hb2⟩
      have HP2 := Lib.hid (HP1.out.drew.below hb2)
      clear hb2 hHeld
      refine hK.out _ _ (trivial) (fun hHeld => ?_)
      clear hK K
      (try simp only [Act.put, List.setIfInBounds_toArray, List.set_cons_zero, List.set_cons_succ])
      refine takeC (i := 5) rfl (by kernel_rfl) (by rfl) (fun K hK => ?_)
      go_simp
      refine (wstr_any B b _ (decZ n) _ HP2.out.1 (by have := HTK.out; simp at this ⊢; omega) (Nat.le_trans HBS.out HP2.out.2.2.2)).mono ?_
      rintro e w3 ⟨rfl, hp3⟩
      have HP3 := Lib.hid (HP2.out.trans hp3)
      clear hp3 hHeld
      refine hK.out _ _ (trivial) (fun hHeld => ?_)
      clear hK K
      (try simp only [Act.put, List.setIfInBounds_toArray, List.set_cons_zero, List.set_cons_succ])
      refine wpAnyH_done (by kernel_rfl) ?_ _
      clear hHeld
      go_wp2
      go_roundw
      case rel => exact ⟨k + 1, _, by omega, by go_num, HA2, HP3⟩
      case measure => simp [intOf]; omega
    · obtain rfl : k = q := by omega
      have HPQ := HP
      have HAQ := HA
      clear HP HA
      go_wp2
      rename World => wq
      go_loopw [11, 36] (fun _ i wr => ∃ (m : Nat) (acc : List UInt8), m ≤ r ∧ i = .int .i64 m ∧ Hid (acc = l ++ joinB 32 (first :: xs.take (k + m))) ∧ Hid (BPost B b acc w wr)) (fun _ i _ => r - (intOf i).toNat)
      case atStart => exact ⟨0, _, Nat.zero_le _, rfl, HAQ, HPQ⟩
      case round =>
        clear HPQ HAQ acc
        obtain ⟨m, acc, hm, rfl, HA, HP⟩ := hrel
        obtain ⟨wo, rfl⟩ : ∃ wo : World, wo = wr := ⟨_, rfl⟩
        by_cases hlt2 : m < r
        · obtain ⟨y, hs⟩ : ∃ y, ws[m]? = some y := ⟨_, List.getElem?_eq_getElem (by rw [← HR.out]; exact hlt2)⟩
          obtain ⟨g, hg, hc⟩ := (HWR.out.kept (by decide) HP.out.2.2.1).cell (j := m) (u := strV y) (by rw [List.getElem?_map, hs]; rfl)
          rw [List.length_map, ← HR.out] at hg
          simp only [Value.slice.injEq, and_true] at hg
          subst hg
          have HC := Lib.hid hc
          have HA2 : Hid ((acc ++ [32]) ++ y = l ++ joinB 32 (first :: xs.take (k + (m + 1)))) := by show _ = _; rw [← Nat.add_assoc, jt_snoc (HX2.out m y hs), HA.out]; simp
          have HTK : Hid (((acc ++ [32]) ++ y).length ≤ 1000000000000) := by show _ ≤ _; rw [HA2.out, List.length_append]; have := HJ.out (k + (m + 1)) (by omega); omega
          clear hc hs HA
          go_wp2_with (first | ((with_reducible show wpList _ _ _ (Oper.mk (some 39) _ _ _ _ _ :: _) _ _); refine wpList_val rfl (exec_loadStr (v := strV y) rfl rfl HC.out) ?_) | (go_at_call 32; refine (wbyte_any B b acc 32 _ HP.out.1 (by have := HTK.out; simp at this; omega) (Nat.le_trans HBS.out HP.out.2.2.2)).mono ?_))
          rintro e w1 ⟨rfl, hp1⟩
          have HP1 := Lib.hid (HP.out.trans hp1)
          clear hp1 HP HC
          go_wp2_with (go_at_call 31; refine (wstr_any B b _ y _ HP1.out.1 (by have := HTK.out; simp at this ⊢; omega) (Nat.le_trans HBS.out HP1.out.2.2.2)).mono ?_)
          rintro e w2 ⟨rfl, hp2⟩
          have HP2 := Lib.hid (HP1.out.trans hp2)
          clear hp2 HP1
          go_wp2
          go_roundw
          case rel => exact ⟨m + 1, _, by omega, by go_num, HA2, HP2⟩
          case measure => simp [intOf]; omega
        · obtain rfl : m = r := by omega
          have HTK : Hid (acc.length + 1 ≤ 1000000000000) := by show _ ≤ _; rw [HA.out, List.length_append]; exact HJ.out (k + m) (by omega)
          go_wp2_with (go_at_call 32; refine (wbyte_any B b acc 10 _ HP.out.1 (by have := HTK.out; omega) (Nat.le_trans HBS.out HP.out.2.2.2)).mono ?_)
          rintro e w1 ⟨rfl, hp1⟩
          have HP1 := Lib.hid (HP.out.trans hp1)
          clear hp1 HP
          go_wp2
          go_end0
          refine HPO.out _ _ HP1.out ?_
          rw [HA.out, List.take_of_length_le (by rw [HXL.out]; exact Nat.le_refl _)]
          simp [lineW]
end Go.Proofs.YtjaaldeaknmmbaaDoor
