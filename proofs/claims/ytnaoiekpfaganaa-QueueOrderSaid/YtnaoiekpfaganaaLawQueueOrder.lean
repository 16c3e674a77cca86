/- QueueOrder: for every input the law answers true: taken by First again and again, the messages of a channel come as they were sent. No condition. -/
import Derived.Test.YtnaoiekpfaganaaBO3
import Derived.Test.YtnaoiekpfaganaaRows
import Derived.WalkKit
import Derived.ProofKit
import Derived.OpenShut
import Derived.ShutString
import Derived.ChangeOld
import Derived.Below
import Derived.SizedLaws
set_option linter.unusedVariables false
namespace Go.Proofs.Ytnaoiekpfaganaa.queueOrder
open Go Go.ChangeShapes Go.WideShapes Go.ChangeAt Go.RowKit
theorem own : ownKnob Try.prog.godebug = none := by kernel_rfl
theorem laidOut : laidOutB Try.prog = true := by kernel_rfl
set_option maxRecDepth 100000 in
theorem int_of {W' : World} {t : TypeId} {v : Value} {k : IntKind} (ht : Try.prog.underlying t = some (.int k)) (h : Value.okWide Try.prog W' .any 0 t v) : ∃ n, v = .int k n := by
  simp only [Value.okWide, ht, Cell.okWide] at h
  cases v <;> simp_all [Cell.ok]
set_option maxRecDepth 100000 in
theorem u8_of {W' : World} {v : Value} (h : Value.okWide Try.prog W' .any 0 5 v) : ∃ n, v = .int .u8 n ∧ 0 ≤ n := by
  simp only [Value.okWide, Que.vU8, Cell.okWide] at h
  cases v <;> simp_all [Cell.ok, IntKind.has]
  have := h.2.1
  simpa [IntKind.min, IntKind.signed] using this
set_option maxRecDepth 100000 in
theorem bool_of {W' : World} {v : Value} (h : Value.okWide Try.prog W' .any 0 4 v) : ∃ n, v = .bool n := by
  simp only [Value.okWide, Que.vB, Cell.okWide] at h
  cases v <;> simp_all [Cell.ok]
theorem opensT (n : Nat) : Go.X.OpensAt Try.prog n (Go.X.Sh.slice (Go.X.Sh.int .u8)) Que.tU8s := Go.X.opens_slice Que.vU8s (by kernel_rfl) (fun m _ => Go.X.opens_int Que.vU8)
theorem flat_u8 : ∀ l : List Int, (l.flatMap fun g => [Value.int .u8 g]) = Que.u8s l
  | [] => rfl
  | g :: l => by rw [List.flatMap_cons, flat_u8 l]; rfl
theorem tags_of {w : World} {x : Value × List Int} {cs : List Value} (h : (Go.X.Sh.slice (Go.X.Sh.int .u8)).K w x cs) : Que.Tags w x.1 x.2 ∧ ∀ g ∈ x.2, 0 ≤ g := by
  refine ⟨?_, fun g hg => ?_⟩
  · have := Go.X.reads_sh h (fun g => [Value.int .u8 g]) (fun _ => rfl) (fun _ _ hd => hd.1)
    rw [flat_u8] at this
    exact this
  · obtain ⟨_, _, A, c, _, _, hr⟩ := h
    obtain ⟨i, hi⟩ := List.getElem?_of_mem hg
    obtain ⟨a, d, _, _, hd, _⟩ := hr i g hi
    have := hd.2
    simp [Lit.wf, IntKind.min, IntKind.signed] at this
    exact this.1
set_option maxRecDepth 100000 in
theorem lifted (os : Os) (started : os.Started) (H : Type) (enc : TypeId × Value → H) :
    ReturnsInHanded {} Try.checked os 5 .any (Rows.queueOrderSpec.pre6 enc Try.prog Try.f5 Rows.queueOrderRow.domain false) (Rows.queueOrderSpec.post enc Try.prog Try.f5 false true false false) := by
  refine Go.X.law_lifted (C := Try.checked) (fn := Try.f5) (tb := 4) own started (by kernel_rfl) Try.func5 rfl laidOut (by kernel_rfl) rfl Try.underlying4 ?_
    (ChangeSpec.witness6 (enc := enc) (C := Try.checked) false ⟨#[], #[.slice none 0 0, .int .u8 0, .int .u8 0, .bool false, .int .i64 0], []⟩ 8 (by kernel_rfl) (by kernel_rfl) (by kernel_rfl) (by kernel_rfl)) ?_
  · intro ds hds
    match ds, hds with | [d1, d2, d3, d4, d5], _ => rfl
  intro W base args ds p hval hA hsz
  obtain ⟨v0, vs0, d0, ds0, p0, q0, hargs, rfl, rfl, h0, r0⟩ := trodAll_cons hA
  obtain ⟨v1, vs1, d1, ds1, p1, q1, hargs1, rfl, rfl, h1, r1⟩ := trodAll_cons r0
  obtain ⟨v2, vs2, d2, ds2, p2, q2, hargs2, rfl, rfl, h2, r2⟩ := trodAll_cons r1
  obtain ⟨v3, vs3, d3, ds3, p3, q3, hargs3, rfl, rfl, h3, r3⟩ := trodAll_cons r2
  obtain ⟨v4, vs4, d4, ds4, p4, q4, hargs4, rfl, rfl, h4, r4⟩ := trodAll_cons r3
  obtain ⟨rfl, rfl, rfl⟩ := trodAll_nil r4
  obtain rfl : args = #[v0, v1, v2, v3, v4] := by cases args; simp_all
  have hv0 := hval 0 52 v0 rfl rfl
  obtain ⟨m0, hm0⟩ := h0
  obtain ⟨x, hK⟩ := (opensT m0).go hm0
  have e0 : v0 = x.1 := Go.X.slice_arg Que.vU8s hv0 hK
  subst e0
  obtain ⟨n1, rfl, hn1⟩ := u8_of (hval 1 5 v1 rfl rfl)
  obtain ⟨n2, rfl, hn2⟩ := u8_of (hval 2 5 v2 rfl rfl)
  obtain ⟨n3, rfl⟩ := bool_of (hval 3 4 v3 rfl rfl)
  obtain ⟨n4, rfl⟩ := int_of Try.underlying3 (hval 4 3 v4 rfl rfl)
  have hq := Que.QueueOrder_ok (tags_of hK).1 (tags_of hK).2 hn1 hn2 n3 n4
  exact Calls.mono hq fun e w' ⟨v, he, hv, hm⟩ => ⟨by rw [he, hv], hm.toBelow⟩
theorem over : Rows.queueOrderRow.holds Try.pinned (OpenSpec.ofChange Rows.queueOrderSpec) :=
  OpenClaim.holds_of_wide 5 Try.f5 rfl rfl rfl rfl rfl rfl rfl ⟨rfl, rfl, rfl, rfl, rfl⟩ rfl rfl rfl rfl rfl (by kernel_rfl) Try.func5 (by kernel_rfl)
    (of_decide_eq_true (by kernel_rfl)) (by unfold Func.isWrapper; first | (rw [if_pos (by decide +kernel)]; kernel_rfl) | (rw [if_neg (by decide +kernel)]; exact ⟨rfl, rfl⟩))
    (fun os started H enc _ => lifted os started H enc)
theorem proved : Rows.QueueOrderSaid := over
#print axioms proved
end Go.Proofs.Ytnaoiekpfaganaa.queueOrder
namespace Go.Proofs.Ytnaoiekpfaganaa
/-- The row, under a short name, for the claim. -/
theorem queueOrder_holds : Rows.QueueOrderSaid := queueOrder.proved
end Go.Proofs.Ytnaoiekpfaganaa
