/- The frame of a law whose arguments are only read: from a contract of its walk to the row. What the arguments of the laws of chapter 16 read as. The frame of a law whose row lists variables: the world's shape kept, the listed variables as they are laid; the laws' rows lifted. -/
import Derived.ProofKit
import Derived.OpenShut
import Derived.ChangeOld
import Derived.Below
import Derived.SizedLaws
import Derived.Test.YtkinhhkodaacjaaGreatDoorV11
import Derived.Test.YtkinhhkodaacjaaGreatDoorOpen
import Derived.Test.YtkinhhkodaacjaaGreatDoorRows
import Derived.HandedShaped
import Derived.Handed
import Derived.LaidMore
import Derived.Lay
import Derived.Stop.Joined
import Derived.Shelf.Vars
namespace Go.Proofs.YtkinhhkodaacjaaGreatDoor
open Go.ChangeShapes Go.WideShapes Go.ChangeAt Go.RowKit

theorem trodAll_below {H : Type} {enc : TypeId × Value → H} {P : Program} (hl : laidOutB P = true) {W W' : World} (hb : Below W.heap.size W W') :
    ∀ {ts : List TypeId} {vs : List Value} {ds : List (DataW H)} {ps : List MemPlace}, (∀ t ∈ ts, P.readableRec t = true ∧ t < P.types.size) →
      DataW.TrodAll enc P W 0 (fun _ => true) true ts vs ds ps → (∀ x ∈ ps, x.block < W.heap.size) → DataW.TrodAll enc P W' 0 (fun b => decide (b < W.heap.size)) true ts vs ds ps := by
  intro ts
  induction ts with
  | nil =>
    intro vs ds ps _ h _
    obtain ⟨rfl, rfl, rfl⟩ := trodAll_nil h
    exact trodAll_mk0
  | cons t ts ih =>
    intro vs ds ps hr h hlt
    obtain ⟨v, vs', d, ds', p, q, rfl, rfl, rfl, h0, h1⟩ := trodAll_cons h
    exact trodAll_cons_mk (Below.trod hl (hr t List.mem_cons_self).1 (hr t List.mem_cons_self).2 h0 hb (fun x hx => hlt x (List.mem_append_left _ hx)))
      (ih (fun t ht => hr t (List.mem_cons_of_mem _ ht)) h1 (fun x hx => hlt x (List.mem_append_right _ hx)))

theorem trodAll_len {H : Type} {enc : TypeId × Value → H} {P : Program} {W : World} {base : Nat} {spare : Nat → Bool} {held : Bool} :
    ∀ {ts : List TypeId} {vs : List Value} {ds : List (DataW H)} {ps : List MemPlace}, DataW.TrodAll enc P W base spare held ts vs ds ps → ds.length = ts.length := by
  intro ts
  induction ts with
  | nil =>
    intro vs ds ps h
    obtain ⟨rfl, rfl, rfl⟩ := trodAll_nil h
    rfl
  | cons t ts ih =>
    intro vs ds ps h
    obtain ⟨v, vs', d, ds', p, q, rfl, rfl, rfl, h0, h1⟩ := trodAll_cons h
    simp [ih h1]

theorem law_lifted {C : Checked} {os : Os} {f : FuncId} {fn : Func} {s : ChangeSpec} {conds : List PathCond} {H : Type} {enc : TypeId × Value → H}
    (own : ownKnob C.prog.godebug = none) (started : os.Started) (noInit : C.prog.inits.idxOf? f = none) (hfn : C.prog.funcs[f]? = some fn)
    (witness : ∃ (w : World) (tape : Tape) (i : Input), w.os = os ∧ (w.forCall tape i).Shaped C.prog ∧ i.vars = [] ∧ Input.okWide C.prog (w.forCall tape i) .any w.heap.size f i ∧
      s.pre6 enc C.prog fn conds false (w.forCall tape i).memory i.args ∧ Assume.holds {} C.prog (lone (Frame.enter C.prog f i.args .normal) [] (w.forCall tape i)))
    (hv : s.vars = []) (hs : ∀ ds : List (DataW H), ds.length = fn.params.toList.length → s.fn H ds = { results := [.lit (.bool true)], args := ds })
    (hres : fn.resultTypes = #[4]) (h4 : C.prog.underlying 4 = some .bool) (hlaid : laidOutB C.prog = true)
    (hread : ∀ t ∈ fn.params.toList, C.prog.readableRec t = true ∧ t < C.prog.types.size)
    (walk : ∀ (W : World) (base : Nat) (args : Array Value) (ds : List (DataW H)) (p : List MemPlace),
      (∀ (j : Nat) t v, fn.params[j]? = some t → args[j]? = some v → Value.okWide C.prog W .any base t v) →
      DataW.TrodAll enc C.prog W 0 (fun _ => true) true fn.params.toList args.toList ds p → (∀ x ∈ p, x.block < W.heap.size) →
      (DataW.weightsEach C.prog fn.params.toList ds).all (· ≤ reachBytes) = true →
      Calls C.prog f args W fun e W' => e = .returned (.bool true) ∧ Below W.heap.size W W') :
    ReturnsInHanded {} C os f .any (s.pre6 enc C.prog fn conds false) (s.post enc C.prog fn false true false false) := by
  refine returnsInHanded_of_change_sized own started noInit hfn witness ?_
  intro W base args ds gs before hval hW _ hsz _
  have hW' := hW
  obtain ⟨p, q, hA, hV, rfl, _, _⟩ := hW
  have hq : gs = [] ∧ q = [] := by rw [hv] at hV; exact trodVars_none hV
  obtain ⟨rfl, rfl⟩ := hq
  have hlt : ∀ x ∈ p, x.block < W.heap.size := fun x hx => by
    have := hW'.lt x (by simpa using hx)
    simpa using this
  have hsz' : (DataW.weightsEach C.prog fn.params.toList ds).all (· ≤ reachBytes) = true := by
    have e : s.plain.varTypes C.prog = [] := by simp [ChangeSpec.plain, DataSpec.varTypes, hv]
    rw [e, List.append_nil, List.append_nil] at hsz
    exact hsz
  refine (walk W base args ds p hval hA hlt hsz').mono fun e W' ⟨he, hb⟩ => ?_
  subst he
  have hf := hs ds (trodAll_len hA)
  refine ⟨_, rfl, ds, [], p ++ [], [], p, [], hW', ?_, ?_, ?_, hb.frame _, fun h => by cases h⟩
  · rw [List.append_nil, hf, hres]
    exact trodAll_mk1 (shut_bool h4 _)
  · rw [List.append_nil, hf]
    exact trodAll_below hlaid hb hread hA hlt
  · rw [List.append_nil, hf, hv]
    rfl

end Go.Proofs.YtkinhhkodaacjaaGreatDoor
namespace Go.Proofs.YtkinhhkodaacjaaGreatDoor
open Go.ChangeShapes Go.WideShapes Go.ChangeAt Go.RowKit Go.Shelf
open Md

theorem own : ownKnob Tryz.prog.godebug = none := by kernel_rfl
theorem laidOut : laidOutB Tryz.prog = true := by kernel_rfl
theorem reads_bl : Reads Tryz.prog 22 (fun b : Bl => [.slice b.a b.l.length b.c]) (fun W b => Bls W b) :=
  Reads.map (reads_slice (size := 1) Tryz.underlying22 (by kernel_rfl) (by decide) (by rw [show Tryz.prog.bytesOf 4 = 1 by kernel_rfl]; decide) (reads_bool Tryz.underlying4)) fun W x hx => by
    obtain ⟨h1, h2, h3⟩ := hx
    obtain ⟨v, l⟩ := x
    simp only at h1 h2 h3
    obtain ⟨a, cap, rfl, h⟩ := h1.shape
    exact ⟨⟨a, cap, l⟩, rfl, h1⟩
theorem reads_il : Reads Tryz.prog 23 (fun b : Il => [.slice b.a b.l.length b.c]) (fun W b => Ils W b) :=
  Reads.map (reads_slice (size := 1) Tryz.underlying23 (by kernel_rfl) (by decide) (by rw [show Tryz.prog.bytesOf 3 = 8 by kernel_rfl]; decide) (reads_int Tryz.underlying3)) fun W x hx => by
    obtain ⟨h1, h2, h3⟩ := hx
    obtain ⟨v, l⟩ := x
    simp only at h1 h2 h3
    obtain ⟨a, cap, rfl, h⟩ := h1.shape
    exact ⟨⟨a, cap, l⟩, rfl, h1, fun x hx => i64_bd (h2 x hx)⟩
theorem reads_by : Reads Tryz.prog 44 (fun b : Il => [.slice b.a b.l.length b.c]) (fun W b => Byts W (.slice b.a b.l.length b.c) b.l) :=
  Reads.map (reads_slice (size := 1) Tryz.underlying44 (by kernel_rfl) (by decide) (by rw [show Tryz.prog.bytesOf 5 = 1 by kernel_rfl]; decide) (reads_int Tryz.underlying5)) fun W x hx => by
    obtain ⟨h1, h2, h3⟩ := hx
    obtain ⟨v, l⟩ := x
    simp only at h1 h2 h3
    obtain ⟨a, cap, rfl, h⟩ := h1.shape
    exact ⟨⟨a, cap, l⟩, rfl, h1, fun x hx => u8_bd (h2 x hx)⟩
theorem reads_ho : Reads Tryz.prog 46 encH GoodH :=
  Reads.map (reads_struct Tryz.underlying46 (by kernel_rfl) (readsFs_cons (c := 1) (enc := encI .i64) rfl (by kernel_rfl) (reads_int Tryz.underlying3) (readsFs_cons (c := 1) (enc := encI .i64) rfl (by kernel_rfl) (reads_int Tryz.underlying3) (readsFs_cons (c := 1) (enc := encI .i64) rfl (by kernel_rfl) (reads_int Tryz.underlying3)
    (readsFs_cons (c := 1) (enc := encI .i64) rfl (by kernel_rfl) (reads_int Tryz.underlying3) (readsFs_cons (c := 1) (enc := encI .i64) rfl (by kernel_rfl) (reads_int Tryz.underlying3) (readsFs_cons (c := 1) rfl (by kernel_rfl) reads_by readsFs_nil))))))) fun W x hx =>
    ⟨⟨x.1, x.2.1, x.2.2.1, x.2.2.2.1, x.2.2.2.2.1, x.2.2.2.2.2.1.a, x.2.2.2.2.2.1.c, x.2.2.2.2.2.1.l⟩, rfl, ⟨hx.2.2.2.2.2.1, i64_bd hx.1, i64_bd hx.2.1, i64_bd hx.2.2.1, i64_bd hx.2.2.2.1, i64_bd hx.2.2.2.2.1⟩⟩
/-- Rows as they lie. -/
structure Hl where
  a : Option Addr
  c : Nat
  l : List Ho
structure Fl where
  a : Option Addr
  c : Nat
  l : List Fa
theorem reads_hl : Reads Tryz.prog 24 (fun b : Hl => [.slice b.a b.l.length b.c]) (fun W b => Hos W (.slice b.a b.l.length b.c) b.l ∧ ∀ y ∈ b.l, GoodH W y) :=
  Reads.map (reads_slice (size := 6) Tryz.underlying24 (by kernel_rfl) (by decide) (by rw [show Tryz.prog.bytesOf 46 = 64 by kernel_rfl]; decide) reads_ho) fun W x hx => by
    obtain ⟨h1, h2, h3⟩ := hx
    obtain ⟨v, l⟩ := x
    simp only at h1 h2 h3
    obtain ⟨a, cap, rfl, h⟩ := h1.shape
    exact ⟨⟨a, cap, l⟩, rfl, h1, h2⟩
theorem reads_fa : Reads Tryz.prog 81 encF (fun _ f => ∀ n ∈ f.fk.ints, inI n) :=
  Reads.map (reads_struct Tryz.underlying81 (by kernel_rfl) (readsFs_cons (c := 1) (enc := encI .i64) rfl (by kernel_rfl) (reads_int Tryz.underlying3) (readsFs_cons (c := 1) (enc := encI .i64) rfl (by kernel_rfl) (reads_int Tryz.underlying3) (readsFs_cons (c := 1) (enc := encI .i64) rfl (by kernel_rfl) (reads_int Tryz.underlying3) (readsFs_cons (c := 1) (enc := encI .i64) rfl (by kernel_rfl) (reads_int Tryz.underlying3)
    (readsFs_cons (c := 1) (enc := encI .i64) rfl (by kernel_rfl) (reads_int Tryz.underlying3) (readsFs_cons (c := 1) (enc := encI .i64) rfl (by kernel_rfl) (reads_int Tryz.underlying3) (readsFs_cons (c := 1) (enc := encI .i64) rfl (by kernel_rfl) (reads_int Tryz.underlying3) readsFs_nil)))))))) fun W x hx =>
    ⟨⟨x.1, x.2.1, x.2.2.1, x.2.2.2.1, x.2.2.2.2.1, x.2.2.2.2.2.1, x.2.2.2.2.2.2.1⟩, rfl, fun n hn => by
      simp only [Fk.ints, Fa.fk, List.mem_cons, List.not_mem_nil, or_false] at hn
      rcases hn with rfl | rfl | rfl | rfl | rfl | rfl | rfl
      · exact i64_bd hx.1
      · exact i64_bd hx.2.1
      · exact i64_bd hx.2.2.1
      · exact i64_bd hx.2.2.2.1
      · exact i64_bd hx.2.2.2.2.1
      · exact i64_bd hx.2.2.2.2.2.1
      · exact i64_bd hx.2.2.2.2.2.2.1⟩
theorem reads_fl : Reads Tryz.prog 25 (fun b : Fl => [.slice b.a b.l.length b.c]) (fun W b => Rd encF 7 W (.slice b.a b.l.length b.c) b.l ∧ ∀ f ∈ b.l, ∀ n ∈ f.fk.ints, inI n) :=
  Reads.map (reads_slice (size := 7) Tryz.underlying25 (by kernel_rfl) (by decide) (by rw [show Tryz.prog.bytesOf 81 = 56 by kernel_rfl]; decide) reads_fa) fun W x hx => by
    obtain ⟨h1, h2, h3⟩ := hx
    obtain ⟨v, l⟩ := x
    simp only at h1 h2 h3
    obtain ⟨a, cap, rfl, h⟩ := h1.shape
    exact ⟨⟨a, cap, l⟩, rfl, h1, h2⟩
theorem reads_sc : Reads Tryz.prog 27 encSc (fun W x => GoodSc W x ∧ FtsI x) :=
  Reads.map (reads_struct Tryz.underlying27 (by kernel_rfl) (readsFs_cons (c := 1) (enc := encI .i64) rfl (by kernel_rfl) (reads_int Tryz.underlying3) (readsFs_cons (c := 1) rfl (by kernel_rfl) reads_bl (readsFs_cons (c := 1) rfl (by kernel_rfl) reads_il (readsFs_cons (c := 1) rfl (by kernel_rfl) reads_il (readsFs_cons (c := 1) rfl (by kernel_rfl) reads_il
    (readsFs_cons (c := 1) rfl (by kernel_rfl) reads_il (readsFs_cons (c := 1) rfl (by kernel_rfl) reads_hl (readsFs_cons (c := 1) rfl (by kernel_rfl) reads_fl readsFs_nil))))))))) fun W x hx =>
    ⟨⟨x.1, x.2.1, x.2.2.1, x.2.2.2.1, x.2.2.2.2.1, x.2.2.2.2.2.1, x.2.2.2.2.2.2.1.a, x.2.2.2.2.2.2.1.c, x.2.2.2.2.2.2.1.l, x.2.2.2.2.2.2.2.1.a, x.2.2.2.2.2.2.2.1.c, x.2.2.2.2.2.2.2.1.l⟩, rfl,
      ⟨i64_bd hx.1, hx.2.1, hx.2.2.1, hx.2.2.2.1, hx.2.2.2.2.1, hx.2.2.2.2.2.1, hx.2.2.2.2.2.2.1.1, hx.2.2.2.2.2.2.1.2, hx.2.2.2.2.2.2.2.1.1⟩, hx.2.2.2.2.2.2.2.1.2⟩
set_option maxRecDepth 100000 in
theorem sc_of_trod {H : Type} {enc : TypeId × Value → H} {W : World} {base : Nat} {v : Value} {d : DataW H} {p : List MemPlace} {ts : List TypeId} {ds : List (DataW H)} {j : Nat}
    (hok : Value.okWide Tryz.prog W .any base 27 v) (h : DataW.Trod enc Tryz.prog W 0 (fun _ => true) true 27 v d p) (hlt : ∀ x ∈ p, x.block < W.heap.size)
    (hsz : (DataW.weightsEach Tryz.prog ts ds).all (· ≤ reachBytes) = true) (ht : ts[j]? = some 27) (hd : ds[j]? = some d) : ∃ x, v = .agg (encSc x).toArray ∧ (GoodSc W x ∧ FtsI x) :=
  arg_struct Tryz.underlying27 reads_sc hok h hlt hsz ht hd
end Go.Proofs.YtkinhhkodaacjaaGreatDoor
namespace Go.Proofs.YtkinhhkodaacjaaGreatDoor
open Go.ChangeShapes Go.WideShapes Go.ChangeAt Go.RowKit

theorem lifted_and_shaped {H : Type} {enc : TypeId × Value → H} {a : Assume} {C : Checked} {os : Os} {f : FuncId} {fn : Func} {s : ChangeSpec} {conds : List PathCond} {apart fresh handsOn again : Bool} {X : World → Array Value → Prop}
    (own : ownKnob C.prog.godebug = none) (started : os.Started) (noInit : C.prog.inits.idxOf? f = none) (hfn : C.prog.funcs[f]? = some fn)
    (witness : ∃ (w : World) (tape : Tape) (i : Input), w.os = os ∧ (w.forCall tape i).Shaped C.prog ∧ i.vars = [] ∧ Input.okWide C.prog (w.forCall tape i) .any w.heap.size f i ∧
      ((s.pre enc C.prog fn conds apart (w.forCall tape i).memory i.args ∧ X (w.forCall tape i).memory i.args) ∧ sizedMet enc C.prog fn (OpenSpec.ofChange s) apart (w.forCall tape i).memory i.args) ∧ a.holds C.prog (lone (Frame.enter C.prog f i.args .normal) [] (w.forCall tape i)))
    (contract : ∀ (W : World) (base : Nat) (args : Array Value) (ds gs : List (DataW H)) (before : List MemPlace),
      (∀ (j : Nat) t v, fn.params[j]? = some t → args[j]? = some v → Value.okWide C.prog W .any base t v) →
      DataW.Whole enc C.prog fn.params.toList s.vars apart W args.toList ds gs before →
      (DataW.weightsEach C.prog (fn.params.toList ++ s.plain.varTypes C.prog) (ds ++ gs)).all (· ≤ reachBytes) = true → W.ShapedOpen C.prog →
      Calls C.prog f args W fun e W' => ∃ v, e = .returned v ∧ s.post enc C.prog fn apart fresh handsOn again W args v W') :
    ReturnsInHanded a C os f .any (fun w args => (s.pre enc C.prog fn conds apart w args ∧ X w args) ∧ sizedMet enc C.prog fn (OpenSpec.ofChange s) apart w args) (s.post enc C.prog fn apart fresh handsOn again) := by
  refine returnsInHanded_of_calls own started noInit witness ?_
  intro w tape i _ hsh _ hok hpre _
  obtain ⟨_, _, _, fn', hfn', _, _, _, _, hval⟩ := hok
  have e : fn' = fn := Option.some.inj (hfn'.symm.trans hfn)
  subst e
  obtain ⟨⟨⟨ds, gs, before, hw, _⟩, _⟩, hz⟩ := hpre
  have hw' := DataW.Whole.of_heap (w' := w.forCall tape i) (by rfl) hw
  refine (contract (w.forCall tape i) w.heap.size i.args ds gs before hval hw' (hz.weights hw) hsh).mono fun e W' ⟨v, he, hp⟩ => ?_
  subst he
  exact ChangeSpec.post_blind hp
theorem law_lifted_laid {C : Checked} {os : Os} {f : FuncId} {fn : Func} {s : ChangeSpec} {conds : List PathCond} {H : Type} {enc : TypeId × Value → H} {X : World → Array Value → Prop}
    (own : ownKnob C.prog.godebug = none) (started : os.Started) (noInit : C.prog.inits.idxOf? f = none) (hfn : C.prog.funcs[f]? = some fn)
    (witness : ∃ (w : World) (tape : Tape) (i : Input), w.os = os ∧ (w.forCall tape i).Shaped C.prog ∧ i.vars = [] ∧ Input.okWide C.prog (w.forCall tape i) .any w.heap.size f i ∧
      ((s.pre enc C.prog fn conds false (w.forCall tape i).memory i.args ∧ X (w.forCall tape i).memory i.args) ∧ sizedMet enc C.prog fn (OpenSpec.ofChange s) false (w.forCall tape i).memory i.args) ∧ Assume.holds {} C.prog (lone (Frame.enter C.prog f i.args .normal) [] (w.forCall tape i)))
    (hv : s.vars = []) (hs : ∀ ds : List (DataW H), ds.length = fn.params.toList.length → s.fn H ds = { results := [.lit (.bool true)], args := ds })
    (hres : fn.resultTypes = #[4]) (h4 : C.prog.underlying 4 = some .bool) (hlaid : laidOutB C.prog = true)
    (hread : ∀ t ∈ fn.params.toList, C.prog.readableRec t = true ∧ t < C.prog.types.size)
    (walk : ∀ (W : World) (base : Nat) (args : Array Value) (ds : List (DataW H)) (p : List MemPlace),
      (∀ (j : Nat) t v, fn.params[j]? = some t → args[j]? = some v → Value.okWide C.prog W .any base t v) →
      DataW.TrodAll enc C.prog W 0 (fun _ => true) true fn.params.toList args.toList ds p → (∀ x ∈ p, x.block < W.heap.size) →
      (DataW.weightsEach C.prog fn.params.toList ds).all (· ≤ reachBytes) = true → W.ShapedOpen C.prog →
      Calls C.prog f args W fun e W' => e = .returned (.bool true) ∧ Below W.heap.size W W') :
    ReturnsInHanded {} C os f .any (fun w args => (s.pre enc C.prog fn conds false w args ∧ X w args) ∧ sizedMet enc C.prog fn (OpenSpec.ofChange s) false w args) (s.post enc C.prog fn false true false false) := by
  refine lifted_and_shaped own started noInit hfn witness ?_
  intro W base args ds gs before hval hW hsz hsh
  have hW' := hW
  obtain ⟨p, q, hA, hV, rfl, _, _⟩ := hW
  have hq : gs = [] ∧ q = [] := by rw [hv] at hV; exact trodVars_none hV
  obtain ⟨rfl, rfl⟩ := hq
  have hlt : ∀ x ∈ p, x.block < W.heap.size := fun x hx => by
    have := hW'.lt x (by simpa using hx)
    simpa using this
  have hsz' : (DataW.weightsEach C.prog fn.params.toList ds).all (· ≤ reachBytes) = true := by
    have e : s.plain.varTypes C.prog = [] := by simp [ChangeSpec.plain, DataSpec.varTypes, hv]
    rw [e, List.append_nil, List.append_nil] at hsz
    exact hsz
  refine (walk W base args ds p hval hA hlt hsz' hsh).mono fun e W' ⟨he, hb⟩ => ?_
  subst he
  have hf := hs ds (trodAll_len hA)
  refine ⟨_, rfl, ds, [], p ++ [], [], p, [], hW', ?_, ?_, ?_, hb.frame _, fun h => by cases h⟩
  · rw [List.append_nil, hf, hres]
    exact trodAll_mk1 (shut_bool h4 _)
  · rw [List.append_nil, hf]
    exact trodAll_below hlaid hb hread hA hlt
  · rw [List.append_nil, hf, hv]
    rfl
set_option maxRecDepth 100000 in
/-- What the rows' walks ask of their arguments. -/
theorem args_of {H : Type} {enc : TypeId × Value → H} {W : World} {base : Nat} {args : Array Value} {ds : List (DataW H)} {p : List MemPlace}
    (hval : ∀ (j : Nat) t v, (#[27, 9] : Array TypeId)[j]? = some t → args[j]? = some v → Value.okWide Tryz.prog W .any base t v)
    (hA : DataW.TrodAll enc Tryz.prog W 0 (fun _ => true) true [27, 9] args.toList ds p) (hlt : ∀ x ∈ p, x.block < W.heap.size) (hsz : (DataW.weightsEach Tryz.prog [27, 9] ds).all (· ≤ reachBytes) = true) :
    ∃ (x : Sc) (t : List UInt8), args = #[.agg (encSc x).toArray, strV t] ∧ GoodSc W x ∧ FtsI x := by
  obtain ⟨v0, vs0, d0, ds0, p0, q0, hargs, rfl, rfl, h0, r0⟩ := trodAll_cons hA
  obtain ⟨v1, vs1, d1, ds1, p1, q1, rfl, rfl, rfl, h1, r1⟩ := trodAll_cons r0
  obtain ⟨rfl, rfl, rfl⟩ := trodAll_nil r1
  obtain rfl : args = #[v0, v1] := by cases args; simp_all
  obtain ⟨x, rfl, g0, g1⟩ := sc_of_trod (hval 0 27 v0 rfl rfl) h0 (fun x hx => hlt x (by simp [hx])) hsz (j := 0) rfl rfl
  obtain ⟨s, rfl, rfl, rfl, ws⟩ := Go.ChangeMaps.open_string Tryz.underlying9 (hval 1 9 v1 rfl rfl) h1
  exact ⟨x, s.data.toList, by simp [strV], g0, g1⟩
set_option maxRecDepth 100000 in
theorem maxlen_of {W : World} (h : W.ShapedOpen Tryz.prog) : MaxLen W :=
  Go.Proofs.cell_of_shapedOpen_int (zero := #[.int .i64 0]) (t := 3) h (of_decide_eq_true (by kernel_rfl)) (by kernel_rfl) rfl (by kernel_rfl) (by kernel_rfl) Tryz.underlying3
set_option maxRecDepth 100000 in
theorem scriptTexts_lifted (os : Os) (started : os.Started) (H : Type) (enc : TypeId × Value → H) :
    ReturnsInHanded {} Tryz.checked os 3 .any (fun w args => (Rows.scriptTextsSpec.pre enc Tryz.prog Tryz.f3 Rows.scriptTextsRow.domain false w args ∧ laidMetH Tryz.prog Rows.scriptTextsRow.laid w) ∧ sizedMet enc Tryz.prog Tryz.f3 (OpenSpec.ofChange Rows.scriptTextsSpec) false w args)
      (Rows.scriptTextsSpec.post enc Tryz.prog Tryz.f3 false true false false) := by
  refine law_lifted_laid (C := Tryz.checked) (X := fun w _ => laidMetH Tryz.prog Rows.scriptTextsRow.laid w) own started (by kernel_rfl) Tryz.func3
    (ChangeSpec.witness_shaped (enc := enc) (C := Tryz.checked) (os := os) (X := fun w _ => laidMetH Tryz.prog Rows.scriptTextsRow.laid w) false (World.laidAll Tryz.prog os Rows.scriptTextsRow.laid) #[.agg (encSc sc0).toArray, .string ⟨#[]⟩] 8 (World.laidAll_os _ _ _)
      (World.shaped_of_ZipB (by kernel_rfl) (by kernel_rfl)) (by kernel_rfl) (by kernel_rfl) (by kernel_rfl)
      (by rw [MakeChecks.laidMetH_plain _ _ _ (by kernel_rfl)]; exact laidMet_laidAll _ (by kernel_rfl) (by kernel_rfl)))
    rfl (fun ds h => by match ds, h with | [d0, d1], _ => rfl) rfl Tryz.underlying4 laidOut (by rw [Tryz.params3]; decide +kernel) ?_
  intro W base args ds p hval hA hlt hsz hsh
  have hval : ∀ (j : Nat) t v, Tryz.f3.params[j]? = some t → args[j]? = some v → Value.okWide Tryz.prog W .any base t v := hval
  rw [Tryz.params3] at hA hval hsz
  obtain ⟨x, t, rfl, hx, hf⟩ := args_of hval hA hlt hsz
  exact texts_any x t W hx hf (maxlen_of hsh)
set_option maxRecDepth 100000 in
theorem scriptBack_lifted (os : Os) (started : os.Started) (H : Type) (enc : TypeId × Value → H) :
    ReturnsInHanded {} Tryz.checked os 4 .any (fun w args => (Rows.scriptBackSpec.pre enc Tryz.prog Tryz.f4 Rows.scriptBackRow.domain false w args ∧ laidMetH Tryz.prog Rows.scriptBackRow.laid w) ∧ sizedMet enc Tryz.prog Tryz.f4 (OpenSpec.ofChange Rows.scriptBackSpec) false w args)
      (Rows.scriptBackSpec.post enc Tryz.prog Tryz.f4 false true false false) := by
  refine law_lifted_laid (C := Tryz.checked) (X := fun w _ => laidMetH Tryz.prog Rows.scriptBackRow.laid w) own started (by kernel_rfl) Tryz.func4
    (ChangeSpec.witness_shaped (enc := enc) (C := Tryz.checked) (os := os) (X := fun w _ => laidMetH Tryz.prog Rows.scriptBackRow.laid w) false (World.laidAll Tryz.prog os Rows.scriptBackRow.laid) #[.agg (encSc sc0).toArray, .string ⟨#[]⟩] 8 (World.laidAll_os _ _ _)
      (World.shaped_of_ZipB (by kernel_rfl) (by kernel_rfl)) (by kernel_rfl) (by kernel_rfl) (by kernel_rfl)
      (by rw [MakeChecks.laidMetH_plain _ _ _ (by kernel_rfl)]; exact laidMet_laidAll _ (by kernel_rfl) (by kernel_rfl)))
    rfl (fun ds h => by match ds, h with | [d0, d1], _ => rfl) rfl Tryz.underlying4 laidOut (by rw [Tryz.params4]; decide +kernel) ?_
  intro W base args ds p hval hA hlt hsz hsh
  have hval : ∀ (j : Nat) t v, Tryz.f4.params[j]? = some t → args[j]? = some v → Value.okWide Tryz.prog W .any base t v := hval
  rw [Tryz.params4] at hA hval hsz
  obtain ⟨x, t, rfl, hx, hf⟩ := args_of hval hA hlt hsz
  exact back_any x t W hx hf (maxlen_of hsh)
end Go.Proofs.YtkinhhkodaacjaaGreatDoor
