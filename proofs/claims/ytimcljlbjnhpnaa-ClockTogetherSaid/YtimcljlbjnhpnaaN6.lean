/- Contract: Precision of the document; what the arguments of the laws of chapter 13 read as. -/
import Derived.Test.YtimcljlbjnhpnaaN5
import Derived.Test.YtimcljlbjnhpnaaFrame
import Derived.Test.YtimcljlbjnhpnaaRows
namespace Go.Proofs.Ytimcljlbjnhpnaa
open Go.ChangeShapes Go.WideShapes Go.ChangeAt Go.RowKit Go.Shelf
open Md

def precV (m : Me) : Int := if errM m = 0 then 14 * m.nodes * m.drift + 8 else 0
theorem errM_ok {m : Me} (h : errM m = 0) : okM m = true := by
  unfold errM at h
  by_cases h1 : okM m = true
  · exact h1
  · rw [if_neg h1] at h; omega
set_option maxRecDepth 100000 in
set_option maxHeartbeats 3200000 in
theorem precision_any (m : Me) (w : World) (h : GoodMe w m) :
    Calls Try.prog 11 #[mev m] w fun e w' => e = .returned (.tuple #[.int .i64 (precV m), .int .i64 (errM m)]) ∧ Below w.heap.size w w' := by
  have hcc : ∀ W, Below w.heap.size w W → _ := fun W hW => rcheck7_any m W (h.below hW)
  have HV : Hid (precV m = if errM m = 0 then 14 * m.nodes * m.drift + 8 else 0) := rfl
  have HOK : Hid (errM m = 0 → _) := fun he => okM_bd (errM_ok (m := m) he)
  obtain ⟨nodes, slot, gap, win, drift, delay, ⟨ca, cc, cl⟩, ma, mc, ml⟩ := m
  unfold mev at *
  simp only at *
  clear h
  generalize precV _ = v at *
  generalize errM _ = ec at *
  have HJ : Hid (Blk (w.alloc (.cells #[.int .i64 nodes, .int .i64 slot, .int .i64 gap, .int .i64 win, .int .i64 drift, .int .i64 delay, .slice ca cl.length cc, .slice ma ml.length mc] 25)) w.heap.size 25 #[.int .i64 nodes, .int .i64 slot, .int .i64 gap, .int .i64 win, .int .i64 drift, .int .i64 delay, .slice ca cl.length cc, .slice ma ml.length mc] ∧ Below w.heap.size w (w.alloc (.cells #[.int .i64 nodes, .int .i64 slot, .int .i64 gap, .int .i64 win, .int .i64 drift, .int .i64 delay, .slice ca cl.length cc, .slice ma ml.length mc] 25))) := ⟨Blk.new' rfl, below1 w _⟩
  go_enter Try.func11, Try.ntmps11
  go_wp2_with fail
  refine (hcc _ HJ.out.2).mono ?_
  rintro e w1 ⟨rfl, hb⟩
  replace HJ := Lib.hid (boxKeep HJ.out hb)
  clear hb hcc
  obtain ⟨m0, m1, m2, m3, m4, m5, m6, m7⟩ := HJ.out.1.eight
  by_cases he : ec = 0
  rotate_left
  · have hne : (ec != 0) = true := by simpa using he
    have hv : v = 0 := by rw [HV.out, if_neg he]
    subst hv
    clear he
    go_wp2
    go_ret2
    exact ⟨rfl, HJ.out.2⟩
  subst he
  have hk := HOK.out rfl
  obtain ⟨⟨n0, n1⟩, ⟨dr0, dr1⟩, _⟩ := hk
  have hnd := nd_bd n0 n1 dr0 dr1
  have hv : v = 14 * nodes * drift + 8 := by rw [HV.out, if_pos rfl]
  have h14 : 0 ≤ 14 * nodes * drift ∧ 14 * nodes * drift ≤ 7168 := by
    have e1 : 14 * nodes * drift = 14 * (nodes * drift) := Int.mul_assoc _ _ _
    have e2 : 16 * nodes * drift = 16 * (nodes * drift) := Int.mul_assoc _ _ _
    omega
  generalize hX : 14 * nodes * drift = X at *
  have hp : 14 * nodes * drift = X := hX
  clear hX hnd
  subst hv
  go_wp2
  go_ret2
  exact ⟨rfl, HJ.out.2⟩

theorem own : ownKnob Try.prog.godebug = none := by kernel_rfl
theorem laidOut : laidOutB Try.prog = true := by kernel_rfl
theorem reads_bl : Reads Try.prog 22 (fun b : Bl => [.slice b.a b.l.length b.c]) (fun W b => Bls W b) :=
  Reads.map (reads_slice (size := 1) Try.underlying22 (by kernel_rfl) (by decide) (by rw [show Try.prog.bytesOf 4 = 1 by kernel_rfl]; decide) (reads_bool Try.underlying4)) fun W x hx => by
    obtain ⟨h1, h2, h3⟩ := hx
    obtain ⟨v, l⟩ := x
    simp only at h1 h2 h3
    obtain ⟨a, cap, rfl, h⟩ := h1.shape
    exact ⟨⟨a, cap, l⟩, rfl, h1⟩
theorem reads_il : Reads Try.prog 67 (fun b : Il => [.slice b.a b.l.length b.c]) (fun W b => Ils W b) :=
  Reads.map (reads_slice (size := 1) Try.underlying67 (by kernel_rfl) (by decide) (by rw [show Try.prog.bytesOf 3 = 8 by kernel_rfl]; decide) (reads_int Try.underlying3)) fun W x hx => by
    obtain ⟨h1, h2, h3⟩ := hx
    obtain ⟨v, l⟩ := x
    simp only at h1 h2 h3
    obtain ⟨a, cap, rfl, h⟩ := h1.shape
    exact ⟨⟨a, cap, l⟩, rfl, h1, fun x hx => i64_bd (h2 x hx)⟩
theorem reads_mo : Reads Try.prog 69 encMo (fun W x => GoodMo W x) :=
  Reads.map (reads_struct Try.underlying69 (by kernel_rfl) (readsFs_cons (c := 1) rfl (by kernel_rfl) reads_il (readsFs_cons (c := 1) rfl (by kernel_rfl) reads_bl (readsFs_cons (c := 1) rfl (by kernel_rfl) reads_bl readsFs_nil)))) fun W x hx =>
    ⟨⟨x.1, x.2.1, x.2.2.1⟩, rfl, hx.1, hx.2.1, hx.2.2.1⟩
/-- Modes as they lie. -/
structure Ml where
  a : Option Addr
  c : Nat
  l : List Mo
theorem reads_ml : Reads Try.prog 23 (fun b : Ml => [.slice b.a b.l.length b.c]) (fun W b => Rd encMo 3 W (.slice b.a b.l.length b.c) b.l ∧ ∀ x ∈ b.l, GoodMo W x) :=
  Reads.map (reads_slice (size := 3) Try.underlying23 (by kernel_rfl) (by decide) (by rw [show Try.prog.bytesOf 69 = 72 by kernel_rfl]; decide) reads_mo) fun W x hx => by
    obtain ⟨h1, h2, h3⟩ := hx
    obtain ⟨v, l⟩ := x
    simp only at h1 h2 h3
    obtain ⟨a, cap, rfl, h⟩ := h1.shape
    exact ⟨⟨a, cap, l⟩, rfl, h1, h2⟩
theorem reads_me : Reads Try.prog 25 encMe (fun W x => GoodMe W x) :=
  Reads.map (reads_struct Try.underlying25 (by kernel_rfl) (readsFs_cons (c := 1) rfl (by kernel_rfl) (reads_int Try.underlying3) (readsFs_cons (c := 1) rfl (by kernel_rfl) (reads_int Try.underlying3) (readsFs_cons (c := 1) rfl (by kernel_rfl) (reads_int Try.underlying3) (readsFs_cons (c := 1) rfl (by kernel_rfl) (reads_int Try.underlying3)
    (readsFs_cons (c := 1) rfl (by kernel_rfl) (reads_int Try.underlying3) (readsFs_cons (c := 1) rfl (by kernel_rfl) (reads_int Try.underlying3) (readsFs_cons (c := 1) rfl (by kernel_rfl) reads_bl (readsFs_cons (c := 1) rfl (by kernel_rfl) reads_ml readsFs_nil))))))))) fun W x hx =>
    ⟨⟨x.1, x.2.1, x.2.2.1, x.2.2.2.1, x.2.2.2.2.1, x.2.2.2.2.2.1, x.2.2.2.2.2.2.1, x.2.2.2.2.2.2.2.1.a, x.2.2.2.2.2.2.2.1.c, x.2.2.2.2.2.2.2.1.l⟩, rfl,
      ⟨hx.2.2.2.2.2.2.1, hx.2.2.2.2.2.2.2.1.1, hx.2.2.2.2.2.2.2.1.2⟩, i64_bd hx.1, i64_bd hx.2.1, i64_bd hx.2.2.1, i64_bd hx.2.2.2.1, i64_bd hx.2.2.2.2.1, i64_bd hx.2.2.2.2.2.1⟩
theorem ints_of_rd {W : World} {a : Option Addr} {c : Nat} {l : List Int} (h : Rd (encI .i64) 1 W (.slice a l.length c) l) (hl : l.length * 8 ≤ 140737488351232) (hb : ∀ x ∈ l, I64 x) : Ints W (.slice a l.length c) l := by
  obtain ⟨a', c', e, h1, h2, h3, h5, h4⟩ := h
  simp only [Value.slice.injEq] at e
  obtain ⟨rfl, _, rfl⟩ := e
  refine ⟨a, c, rfl, h1, h2, by omega, hb, h5, ?_⟩
  rcases h4 with h4 | ⟨b, off, rfl, hlt, hc⟩
  · exact .inl h4
  · exact .inr ⟨b, off, rfl, hlt, fun k hk => hc.int hk⟩
/-- Deviations as they lie. -/
structure Dl where
  a : Option Addr
  c : Nat
  l : List Int
theorem reads_dl : Reads Try.prog 26 (fun b : Dl => [.slice b.a b.l.length b.c]) (fun W b => Ints W (.slice b.a b.l.length b.c) b.l) :=
  Reads.map (reads_slice (size := 1) Try.underlying26 (by kernel_rfl) (by decide) (by rw [show Try.prog.bytesOf 2 = 8 by kernel_rfl]; decide) (reads_int Try.underlying2)) fun W x hx => by
    obtain ⟨h1, h2, h3⟩ := hx
    obtain ⟨v, l⟩ := x
    simp only at h1 h2 h3
    obtain ⟨a, cap, rfl, h⟩ := h1.shape
    exact ⟨⟨a, cap, l⟩, rfl, ints_of_rd h1 (by rw [show Try.prog.bytesOf 2 = 8 by kernel_rfl] at h3; exact h3) (fun x hx => i64_bd (h2 x hx))⟩
theorem reads_ck : Reads Try.prog 28 (fun c : Ck => [.int .i64 c.st, .int .i64 c.sl, .slice c.da c.dl.length c.dc]) (fun W c => GoodCk W c) :=
  Reads.map (reads_struct Try.underlying28 (by kernel_rfl) (readsFs_cons (c := 1) rfl (by kernel_rfl) (reads_int Try.underlying2) (readsFs_cons (c := 1) rfl (by kernel_rfl) (reads_int Try.underlying3) (readsFs_cons (c := 1) rfl (by kernel_rfl) reads_dl readsFs_nil)))) fun W x hx =>
    ⟨⟨x.1, x.2.1, x.2.2.1.a, x.2.2.1.c, x.2.2.1.l⟩, rfl, hx.2.2.1, i64_bd hx.1, i64_bd hx.2.1⟩

set_option maxRecDepth 100000 in
theorem medl_of_trod {H : Type} {enc : TypeId × Value → H} {W : World} {base : Nat} {v : Value} {d : DataW H} {p : List MemPlace} {ts : List TypeId} {ds : List (DataW H)} {j : Nat}
    (hok : Value.okWide Try.prog W .any base 25 v) (h : DataW.Trod enc Try.prog W 0 (fun _ => true) true 25 v d p) (hlt : ∀ x ∈ p, x.block < W.heap.size)
    (hsz : (DataW.weightsEach Try.prog ts ds).all (· ≤ reachBytes) = true) (ht : ts[j]? = some 25) (hd : ds[j]? = some d) : ∃ m, v = mev m ∧ GoodMe W m :=
  arg_struct Try.underlying25 reads_me hok h hlt hsz ht hd
set_option maxRecDepth 100000 in
theorem clock_of_trod {H : Type} {enc : TypeId × Value → H} {W : World} {base : Nat} {v : Value} {d : DataW H} {p : List MemPlace} {ts : List TypeId} {ds : List (DataW H)} {j : Nat}
    (hok : Value.okWide Try.prog W .any base 28 v) (h : DataW.Trod enc Try.prog W 0 (fun _ => true) true 28 v d p) (hlt : ∀ x ∈ p, x.block < W.heap.size)
    (hsz : (DataW.weightsEach Try.prog ts ds).all (· ≤ reachBytes) = true) (ht : ts[j]? = some 28) (hd : ds[j]? = some d) : ∃ c, v = clv c ∧ GoodCk W c :=
  arg_struct Try.underlying28 reads_ck hok h hlt hsz ht hd
end Go.Proofs.Ytimcljlbjnhpnaa
