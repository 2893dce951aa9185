/- A script cleaned again is the same: the plain law. -/
import Derived.Test.YtkinhhkodaacjaaSd
import Derived.Test.YtkinhhkodaacjaaU1
import Derived.Test.YtkinhhkodaacjaaR3
import Derived.Test.YtkinhhkodaacjaaF9
import Derived.Test.YtkinhhkodaacjaaT8
namespace Go.Proofs.Ytkinhhkodaacjaa
open Go.RowKit Go.Shelf Go.Sort
open Md

theorem inTo_in {a b x : Int} (h : a ≤ b) : a ≤ inTo a b x ∧ inTo a b x ≤ b := by
  unfold inTo imin imax; split <;> split <;> omega
theorem inTo_of {a b x : Int} (h1 : a ≤ x) (h2 : x ≤ b) : inTo a b x = x := by
  unfold inTo imin imax; split <;> split <;> omega
theorem rowL_in {l : List Int} {n : Nat} {a b z : Int} (hz : a ≤ z ∧ z ≤ b) : ∀ x ∈ rowL l n a b z, a ≤ x ∧ x ≤ b := by
  intro x hx
  unfold rowL at hx
  obtain ⟨i, _, rfl⟩ := List.mem_map.1 hx
  split
  · exact inTo_in (by omega)
  · exact hz
theorem rowL_get (l : List Int) {n i : Nat} (a b z : Int) (h : i < n) : (rowL l n a b z)[i]? = some (if h : i < l.length then inTo a b l[i] else z) := by
  unfold rowL
  simp [h]
theorem rowL_again {l : List Int} {n : Nat} {a b z : Int} (hz : a ≤ z ∧ z ≤ b) : rowL (rowL l n a b z) n a b z = rowL l n a b z := by
  apply List.ext_getElem?
  intro i
  by_cases h : i < n
  · have hi : i < (rowL l n a b z).length := by rw [rowL_len]; exact h
    have hin := rowL_in hz (rowL l n a b z)[i] (List.getElem_mem hi)
    rw [rowL_get _ _ _ _ h, dif_pos hi, inTo_of hin.1 hin.2, List.getElem?_eq_getElem hi]
  · rw [List.getElem?_eq_none (by rw [rowL_len]; omega), List.getElem?_eq_none (by rw [rowL_len]; omega)]
def upsL (l : List Bool) (n : Nat) : List Bool := l.take n ++ List.replicate (n - l.length) true
theorem upsL_len (l : List Bool) (n : Nat) : (upsL l n).length = n := by unfold upsL; simp; omega
theorem upsL_again (l : List Bool) (n : Nat) : upsL (upsL l n) n = upsL l n := by
  have h := upsL_len l n
  have e : upsL (upsL l n) n = (upsL l n).take n ++ List.replicate (n - (upsL l n).length) true := rfl
  rw [e, h, Nat.sub_self, List.take_of_length_le (by omega)]
  simp
theorem cleanF_sub {m : Me} {l s : List Fa} (ho : okM m = true) (h : s.Sublist (cleanF m l)) : cleanF m s = s := by
  unfold cleanF at h ⊢
  rw [if_pos ho] at h ⊢
  refine (cleanB_of (List.Pairwise.sublist h (cleanB_up _ _)) fun x => ⟨fun hx => ⟨hx, ((cleanB_mem _ _ _).1 (h.subset hx)).2⟩, fun hx => hx.1⟩).symm
theorem cleanF_mem {m : Me} {l : List Fa} {x : Fa} (h : x ∈ cleanF m l) : x ∈ l := by
  unfold cleanF at h
  split at h
  · exact ((cleanB_mem _ _ _).1 h).1
  · simp at h
theorem kind_key {m : Me} {x y : Ho} (h : x.key = y.key) : mayH m x = mayH m y := by
  obtain ⟨n, r, s, k, v, a, c, d⟩ := x
  obtain ⟨n', r', s', k', v', a', c', d'⟩ := y
  simp only [Ho.key, Hk.mk.injEq] at h
  obtain ⟨rfl, rfl, rfl, rfl, rfl, rfl⟩ := h
  rfl
theorem lt_key {x y x' y' : Ho} (h : x.key = x'.key) (h' : y.key = y'.key) : ltOf cmpH x y = ltOf cmpH x' y' := by
  obtain ⟨n, r, s, k, v, a, c, d⟩ := x
  obtain ⟨n', r', s', k', v', a', c', d'⟩ := x'
  obtain ⟨n2, r2, s2, k2, v2, a2, c2, d2⟩ := y
  obtain ⟨n3, r3, s3, k3, v3, a3, c3, d3⟩ := y'
  simp only [Ho.key, Hk.mk.injEq] at h h'
  obtain ⟨rfl, rfl, rfl, rfl, rfl, rfl⟩ := h
  obtain ⟨rfl, rfl, rfl, rfl, rfl, rfl⟩ := h'
  rfl
theorem upH_key : ∀ {l m : List Ho}, l.map Ho.key = m.map Ho.key → UpH l → UpH m
  | [], [], _, _ => List.Pairwise.nil
  | [], _ :: _, h, _ => by simp at h
  | _ :: _, [], h, _ => by simp at h
  | x :: l, y :: m, h, hu => by
    simp only [List.map_cons, List.cons.injEq] at h
    unfold UpH at hu ⊢
    rw [List.pairwise_cons] at hu ⊢
    refine ⟨fun z hz => ?_, upH_key h.2 hu.2⟩
    have hzk : z.key ∈ l.map Ho.key := by rw [h.2]; exact List.mem_map_of_mem hz
    obtain ⟨z', hz', e⟩ := List.mem_map.1 hzk
    rw [← hu.1 z' hz', lt_key e h.1]
/-- The operations that are taken. -/
def opsT (m : Me) (l : List Ho) : List Ho := (l.filter (mayH m)).take 256
theorem opsT_len (m : Me) (l : List Ho) : (opsT m l).length ≤ 256 := by unfold opsT; rw [List.length_take]; exact Nat.min_le_left _ _
theorem opsT_mem {m : Me} {l : List Ho} {x : Ho} (h : x ∈ opsT m l) : x ∈ l ∧ mayH m x = true := List.mem_filter.1 (List.mem_of_mem_take h)
theorem opsT_all {m : Me} {l : List Ho} (h : ∀ x ∈ l, mayH m x = true) (hl : l.length ≤ 256) : opsT m l = l := by
  unfold opsT
  rw [List.filter_eq_self.2 h, List.take_of_length_le hl]
theorem opsT_step {m : Me} {l : List Ho} {k : Nat} {z : Ho} (hs : l[k]? = some z) : opsT m (l.take (k + 1)) = if mayH m z = true ∧ (opsT m (l.take k)).length < 256 then opsT m (l.take k) ++ [z] else opsT m (l.take k) := by
  unfold opsT
  rw [take_snoc hs, List.filter_append]
  generalize List.filter (mayH m) (l.take k) = F
  by_cases h1 : mayH m z = true
  · rw [List.filter_cons_of_pos h1, List.filter_nil]
    by_cases h2 : F.length < 256
    · have e1 : (F ++ [z]).take 256 = F ++ [z] := List.take_of_length_le (by simp; omega)
      have e2 : F.take 256 = F := List.take_of_length_le (by omega)
      rw [e1, e2, if_pos ⟨h1, h2⟩]
    · have e1 : (F ++ [z]).take 256 = F.take 256 := by rw [List.take_append, show 256 - F.length = 0 by omega, List.take_zero, List.append_nil]
      rw [e1, if_neg (by rw [List.length_take]; omega)]
  · rw [List.filter_cons_of_neg h1, List.filter_nil, List.append_nil, if_neg (fun h => h1 h.1)]
/-- What Clean makes of a script. -/
structure CleanL (m : Me) (x y : Sc) : Prop where
  rounds : y.rounds = inTo 1 16 x.rounds
  ups : y.ups.l = upsL x.ups.l m.nodes.toNat
  offs : y.offs.l = rowL x.offs.l m.nodes.toNat 0 (precM m) 0
  gates : y.gates.l = rowL x.gates.l m.nodes.toNat 40 60 50
  guards : y.guards.l = rowL x.guards.l m.nodes.toNat (-(m.win.tdiv 2)) (m.win.tdiv 2) 0
  drifts : y.drifts.l = rowL x.drifts.l (min x.drifts.l.length 1024) (-m.drift) m.drift 0
  faults : y.faults = (cleanF m x.faults).take 256
  ops : ∃ L : List Ho, L.map Ho.key = (opsT m x.ops).map Ho.key ∧ y.ops.Perm L ∧ UpH y.ops ∧ (UpH L → y.ops = L)
theorem CleanL.opsmay {m : Me} {x y : Sc} (h : CleanL m x y) : ∀ o ∈ y.ops, mayH m o = true ∧ ∃ p ∈ x.ops, o.key = p.key := by
  obtain ⟨L, hk, hp, _, _⟩ := h.ops
  intro o ho
  have h1 : o.key ∈ L.map Ho.key := List.mem_map_of_mem (hp.mem_iff.1 ho)
  rw [hk] at h1
  obtain ⟨p, hp', e⟩ := List.mem_map.1 h1
  exact ⟨by rw [← kind_key e]; exact (opsT_mem hp').2, p, (opsT_mem hp').1, e.symm⟩
theorem CleanL.opslen {m : Me} {x y : Sc} (h : CleanL m x y) : y.ops.length ≤ 256 := by
  obtain ⟨L, hk, hp, _, _⟩ := h.ops
  have := congrArg List.length hk
  simp only [List.length_map] at this
  rw [hp.length_eq, this]
  exact opsT_len _ _
theorem okM_win {m : Me} (h : okM m = true) : 0 ≤ m.win := by
  have hd := okM_drift h
  have h2 : 0 ≤ m.nodes * m.drift := Int.mul_nonneg (by omega) (by omega)
  unfold okM at h
  simp only [Bool.and_eq_true, decide_eq_true_eq] at h
  have h3 := h.2.1.1
  rw [Int.mul_assoc] at h3
  omega
theorem CleanL.again {m : Me} {x y z : Sc} (ho : okM m = true) (h1 : CleanL m x y) (h2 : CleanL m y z) : SameSc y z := by
  have hd := okM_drift ho
  have hw := okM_win ho
  have hp : 0 ≤ precM m := by
    unfold precM
    have : 0 ≤ m.nodes * m.drift := Int.mul_nonneg (by omega) (by omega)
    rw [Int.mul_assoc]; omega
  have hh : 0 ≤ m.win.tdiv 2 := by rw [Int.tdiv_eq_ediv_of_nonneg hw]; omega
  refine ⟨?_, ?_, ?_, ?_, ?_, ?_, ?_, ?_⟩
  · rw [h2.rounds]
    have := inTo_in (a := 1) (b := 16) (x := x.rounds) (by omega)
    rw [← h1.rounds] at this
    exact (inTo_of this.1 this.2).symm
  · rw [h2.ups, h1.ups, upsL_again]
  · rw [h2.offs, h1.offs, rowL_again ⟨Int.le_refl _, hp⟩]
  · rw [h2.gates, h1.gates, rowL_again (by omega)]
  · rw [h2.guards, h1.guards, rowL_again (by omega)]
  · rw [h2.drifts]
    have hl : min y.drifts.l.length 1024 = min x.drifts.l.length 1024 := by rw [h1.drifts, rowL_len]; omega
    rw [hl, h1.drifts, rowL_again (by omega)]
  · obtain ⟨L, hk, hpm, _, hst⟩ := h2.ops
    have e : opsT m y.ops = y.ops := opsT_all (fun o ho' => (h1.opsmay o ho').1) h1.opslen
    rw [e] at hk
    obtain ⟨_, _, _, hu, _⟩ := h1.ops
    rw [hst (upH_key hk.symm hu), hk]
  · rw [h2.faults, h1.faults, cleanF_sub ho (List.take_sublist _ _)]
    rw [List.take_take]
    simp
theorem CleanL.faultin {m : Me} {x y : Sc} (h : CleanL m x y) : ∀ f ∈ y.faults, f ∈ x.faults := by
  intro f hf
  rw [h.faults] at hf
  exact cleanF_mem (List.mem_of_mem_take hf)
theorem CleanL.opin {m : Me} {x y : Sc} (h : CleanL m x y) : ∀ o ∈ y.ops, (x.ops.any fun p => decide (o.key = p.key)) = true := by
  intro o ho
  obtain ⟨_, p, hp, e⟩ := h.opsmay o ho
  rw [List.any_eq_true]
  exact ⟨p, hp, decide_eq_true e⟩
end Go.Proofs.Ytkinhhkodaacjaa
