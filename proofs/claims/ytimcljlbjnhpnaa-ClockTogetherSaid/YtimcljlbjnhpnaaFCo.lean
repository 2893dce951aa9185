/- ClockTogether returns true whatever it is given, and changes nothing that was there. No condition. -/
import Derived.Test.YtimcljlbjnhpnaaC10
namespace Go.Proofs.Ytimcljlbjnhpnaa
open Go.ChangeShapes Go.WideShapes Go.ChangeAt Go.RowKit
open Md

theorem u16_bd {x : Int} (h : IntOf .u16 x) : 0 ≤ x ∧ x ≤ 65535 := by
  simp [IntOf, Lit.wf, IntKind.min, IntKind.max, IntKind.bits, IntKind.signed] at h
  omega
theorem i8_bd {x : Int} (h : IntOf .i8 x) : -128 ≤ x ∧ x ≤ 127 := by
  simp [IntOf, Lit.wf, IntKind.min, IntKind.max, IntKind.bits, IntKind.signed] at h
  omega
theorem reads_us : Reads Try.prog 48 (fun b : Dl => [.slice b.a b.l.length b.c]) (fun W b => Rd (encI .u16) 1 W (.slice b.a b.l.length b.c) b.l ∧ ∀ x ∈ b.l, 0 ≤ x ∧ x ≤ 65535) :=
  Reads.map (reads_slice (size := 1) Try.underlying48 (by kernel_rfl) (by decide) (by rw [show Try.prog.bytesOf 51 = 2 by kernel_rfl]; decide) (reads_int Try.underlying51)) fun W x hx => by
    obtain ⟨h1, h2, h3⟩ := hx
    obtain ⟨v, l⟩ := x
    simp only at h1 h2 h3
    obtain ⟨a, c, rfl, _⟩ := h1.shape
    exact ⟨⟨a, c, l⟩, rfl, h1, fun y hy => u16_bd (h2 y hy)⟩
theorem reads_is : Reads Try.prog 49 (fun b : Dl => [.slice b.a b.l.length b.c]) (fun W b => Rd (encI .i8) 1 W (.slice b.a b.l.length b.c) b.l ∧ ∀ x ∈ b.l, -128 ≤ x ∧ x ≤ 127) :=
  Reads.map (reads_slice (size := 1) Try.underlying49 (by kernel_rfl) (by decide) (by rw [show Try.prog.bytesOf 53 = 1 by kernel_rfl]; decide) (reads_int Try.underlying53)) fun W x hx => by
    obtain ⟨h1, h2, h3⟩ := hx
    obtain ⟨v, l⟩ := x
    simp only at h1 h2 h3
    obtain ⟨a, c, rfl, _⟩ := h1.shape
    exact ⟨⟨a, c, l⟩, rfl, h1, fun y hy => i8_bd (h2 y hy)⟩
set_option maxRecDepth 100000 in
theorem us_of_trod {H : Type} {enc : TypeId × Value → H} {W : World} {base : Nat} {v : Value} {d : DataW H} {p : List MemPlace} {ts : List TypeId} {ds : List (DataW H)} {j : Nat}
    (hok : Value.okWide Try.prog W .any base 48 v) (h : DataW.Trod enc Try.prog W 0 (fun _ => true) true 48 v d p) (hlt : ∀ x ∈ p, x.block < W.heap.size)
    (hsz : (DataW.weightsEach Try.prog ts ds).all (· ≤ reachBytes) = true) (ht : ts[j]? = some 48) (hd : ds[j]? = some d) : ∃ b : Dl, v = .slice b.a b.l.length b.c ∧ (Rd (encI .u16) 1 W (.slice b.a b.l.length b.c) b.l ∧ ∀ x ∈ b.l, 0 ≤ x ∧ x ≤ 65535) :=
  arg_one reads_us (cells_slice Try.underlying48 hok) h hlt hsz ht hd
set_option maxRecDepth 100000 in
theorem is_of_trod {H : Type} {enc : TypeId × Value → H} {W : World} {base : Nat} {v : Value} {d : DataW H} {p : List MemPlace} {ts : List TypeId} {ds : List (DataW H)} {j : Nat}
    (hok : Value.okWide Try.prog W .any base 49 v) (h : DataW.Trod enc Try.prog W 0 (fun _ => true) true 49 v d p) (hlt : ∀ x ∈ p, x.block < W.heap.size)
    (hsz : (DataW.weightsEach Try.prog ts ds).all (· ≤ reachBytes) = true) (ht : ts[j]? = some 49) (hd : ds[j]? = some d) : ∃ b : Dl, v = .slice b.a b.l.length b.c ∧ (Rd (encI .i8) 1 W (.slice b.a b.l.length b.c) b.l ∧ ∀ x ∈ b.l, -128 ≤ x ∧ x ≤ 127) :=
  arg_one reads_is (cells_slice Try.underlying49 hok) h hlt hsz ht hd
theorem tog_walk (m : Me) (start : Int) (u v : Dl) (w : World) (h : GoodMe w m) (hs : I64 start) (ho : Rd (encI .u16) 1 w (.slice u.a u.l.length u.c) u.l ∧ ∀ x ∈ u.l, 0 ≤ x ∧ x ≤ 65535) (hd : Rd (encI .i8) 1 w (.slice v.a v.l.length v.c) v.l ∧ ∀ x ∈ v.l, -128 ≤ x ∧ x ≤ 127) :
    Calls Try.prog 7 #[mev m, .int .i64 start, .slice u.a u.l.length u.c, .slice v.a v.l.length v.c] w fun e w' => e = .returned (.bool true) ∧ Below w.heap.size w w' :=
  together_walk m start u.a u.c u.l v.a v.c v.l w h hs ho hd

set_option maxRecDepth 100000 in
theorem clockTogether_lifted (os : Os) (started : os.Started) (H : Type) (enc : TypeId × Value → H) :
    ReturnsInHanded {} Try.checked os 7 .any (Rows.clockTogetherSpec.pre6 enc Try.prog Try.f7 Rows.clockTogetherRow.domain false) (Rows.clockTogetherSpec.post enc Try.prog Try.f7 false true false false) := by
  refine law_lifted (C := Try.checked) own started (by kernel_rfl) Try.func7
    (ChangeSpec.witness6 (enc := enc) (C := Try.checked) false ⟨#[], #[.agg #[.int .i64 0, .int .i64 0, .int .i64 0, .int .i64 0, .int .i64 0, .int .i64 0, .slice none 0 0, .slice none 0 0], .int .i64 0, .slice none 0 0, .slice none 0 0], []⟩ 8 (by kernel_rfl) (by kernel_rfl) (by kernel_rfl) (by kernel_rfl))
    rfl (fun ds h => by match ds, h with | [d0, d1, d2, d3], _ => rfl) rfl Try.underlying4 laidOut (by rw [Try.params7]; decide +kernel) ?_
  intro W base args ds p hval hA hlt hsz
  have hval : ∀ (j : Nat) t v, Try.f7.params[j]? = some t → args[j]? = some v → Value.okWide Try.prog W .any base t v := hval
  rw [Try.params7] at hA hval hsz
  obtain ⟨v0, vs0, d0, ds0, p0, q0, hargs, rfl, rfl, h0, r0⟩ := trodAll_cons hA
  obtain ⟨v1, vs1, d1, ds1, p1, q1, rfl, rfl, rfl, h1, r1⟩ := trodAll_cons r0
  obtain ⟨v2, vs2, d2, ds2, p2, q2, rfl, rfl, rfl, h2, r2⟩ := trodAll_cons r1
  obtain ⟨v3, vs3, d3, ds3, p3, q3, rfl, rfl, rfl, h3, r3⟩ := trodAll_cons r2
  obtain ⟨rfl, rfl, rfl⟩ := trodAll_nil r3
  obtain rfl : args = #[v0, v1, v2, v3] := by cases args; simp_all
  obtain ⟨l0, rfl, g0⟩ := medl_of_trod (hval 0 25 v0 rfl rfl) h0 (fun x hx => hlt x (by simp [hx])) hsz (j := 0) rfl rfl
  obtain ⟨x1, rfl, hd1, rfl, w1⟩ := open_int Try.underlying2 (hval 1 2 v1 rfl rfl) h1
  have b1 : -9223372036854775808 ≤ x1 ∧ x1 ≤ 9223372036854775807 := by simp [Lit.wf, IntKind.min, IntKind.max, IntKind.bits, IntKind.signed] at w1; omega
  obtain ⟨l2, rfl, g2⟩ := us_of_trod (hval 2 48 v2 rfl rfl) h2 (fun x hx => hlt x (by simp [hx])) hsz (j := 2) rfl rfl
  obtain ⟨l3, rfl, g3⟩ := is_of_trod (hval 3 49 v3 rfl rfl) h3 (fun x hx => hlt x (by simp [hx])) hsz (j := 3) rfl rfl
  exact tog_walk l0 x1 l2 l3 W g0 b1 g2 g3

theorem clockTogether_holds : Rows.ClockTogetherSaid :=
  OpenClaim.holds_of_wide 7 Try.f7 rfl rfl rfl rfl rfl rfl rfl ⟨rfl, rfl, rfl, rfl, rfl⟩ rfl rfl rfl rfl rfl (by kernel_rfl) Try.func7 (by kernel_rfl)
    (of_decide_eq_true (by kernel_rfl)) (by unfold Func.isWrapper; first | (rw [if_pos (by decide +kernel)]; kernel_rfl) | (rw [if_neg (by decide +kernel)]; exact ⟨rfl, rfl⟩))
    (fun os started H enc _ => clockTogether_lifted os started H enc)
#print axioms clockTogether_holds
end Go.Proofs.Ytimcljlbjnhpnaa
