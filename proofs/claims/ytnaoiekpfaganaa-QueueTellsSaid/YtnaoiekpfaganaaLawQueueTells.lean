/- QueueTells: for every input the law answers true: the messages that are found, first, ahead, and the senders, are those that the chapter says. No condition. -/
import Derived.Test.YtnaoiekpfaganaaBT3
import Derived.Test.YtnaoiekpfaganaaRows
import Derived.WalkKit
import Derived.ProofKit
import Derived.OpenShut
import Derived.ShutString
import Derived.ChangeOld
import Derived.Below
import Derived.SizedLaws
set_option linter.unusedVariables false
namespace Go.Proofs.Ytnaoiekpfaganaa.queueTells
open Go Go.ChangeShapes Go.WideShapes Go.ChangeAt Go.RowKit
theorem own : ownKnob Try.prog.godebug = none := by kernel_rfl
theorem laidOut : laidOutB Try.prog = true := by kernel_rfl
set_option maxRecDepth 100000 in
theorem int_of {W' : World} {t : TypeId} {v : Value} {k : IntKind} (ht : Try.prog.underlying t = some (.int k)) (h : Value.okWide Try.prog W' .any 0 t v) : ∃ n, v = .int k n := by
  simp only [Value.okWide, ht, Cell.okWide] at h
  cases v <;> simp_all [Cell.ok]
set_option maxRecDepth 100000 in
theorem str_of {W' : World} {t : TypeId} {v : Value} (ht : Try.prog.underlying t = some .string) (h : Value.okWide Try.prog W' .any 0 t v) : ∃ b, v = .string b := by
  simp only [Value.okWide, ht, Cell.okWide] at h
  cases v <;> simp_all [Cell.ok]
set_option maxRecDepth 100000 in
theorem lifted (os : Os) (started : os.Started) (H : Type) (enc : TypeId × Value → H) :
    ReturnsInHanded {} Try.checked os 4 .any (Rows.queueTellsSpec.pre6 enc Try.prog Try.f4 Rows.queueTellsRow.domain false) (Rows.queueTellsSpec.post enc Try.prog Try.f4 false true false false) := by
  refine Go.X.law_lifted (C := Try.checked) (fn := Try.f4) (tb := 4) own started (by kernel_rfl) Try.func4 rfl laidOut (by kernel_rfl) rfl Try.underlying4 ?_
    (ChangeSpec.witness6 (enc := enc) (C := Try.checked) false ⟨#[], #[.slice none 0 0, .string ⟨#[]⟩, .int .i64 0, .int .i64 0, .int .i64 0, .int .i64 0], []⟩ 8 (by kernel_rfl) (by kernel_rfl) (by kernel_rfl) (by kernel_rfl)) ?_
  · intro ds hds
    match ds, hds with | [d1, d2, d3, d4, d5, d6], _ => rfl
  intro W base args ds p hval hA hsz
  obtain ⟨v0, vs0, d0, ds0, p0, q0, hargs, rfl, rfl, h0, r0⟩ := trodAll_cons hA
  obtain ⟨v1, vs1, d1, ds1, p1, q1, hargs1, rfl, rfl, h1, r1⟩ := trodAll_cons r0
  obtain ⟨v2, vs2, d2, ds2, p2, q2, hargs2, rfl, rfl, h2, r2⟩ := trodAll_cons r1
  obtain ⟨v3, vs3, d3, ds3, p3, q3, hargs3, rfl, rfl, h3, r3⟩ := trodAll_cons r2
  obtain ⟨v4, vs4, d4, ds4, p4, q4, hargs4, rfl, rfl, h4, r4⟩ := trodAll_cons r3
  obtain ⟨v5, vs5, d5, ds5, p5, q5, hargs5, rfl, rfl, h5, r5⟩ := trodAll_cons r4
  obtain ⟨rfl, rfl, rfl⟩ := trodAll_nil r5
  obtain rfl : args = #[v0, v1, v2, v3, v4, v5] := by cases args; simp_all
  have hv0 := hval 0 22 v0 rfl rfl
  obtain ⟨m0, hm0⟩ := h0
  obtain ⟨x, hK⟩ := (Que.opensAs m0).go hm0
  have e0 : v0 = x.1 := Go.X.slice_arg Try.underlying22 hv0 hK
  subst e0
  obtain ⟨b, rfl⟩ := str_of Try.underlying9 (hval 1 9 v1 rfl rfl)
  obtain ⟨n2, rfl⟩ := int_of Try.underlying3 (hval 2 3 v2 rfl rfl)
  obtain ⟨n3, rfl⟩ := int_of Try.underlying3 (hval 3 3 v3 rfl rfl)
  obtain ⟨n4, rfl⟩ := int_of Try.underlying3 (hval 4 3 v4 rfl rfl)
  obtain ⟨n5, rfl⟩ := int_of Try.underlying3 (hval 5 3 v5 rfl rfl)
  have hq := Que.QueueTells_ok (Que.Acts_of hK) b.data.toList n2 n3 n4 n5
  rw [Que.strV_back] at hq
  exact Calls.mono hq fun e w' ⟨v, he, hv, hm⟩ => ⟨by rw [he, hv], hm.toBelow⟩
theorem over : Rows.queueTellsRow.holds Try.pinned (OpenSpec.ofChange Rows.queueTellsSpec) :=
  OpenClaim.holds_of_wide 4 Try.f4 rfl rfl rfl rfl rfl rfl rfl ⟨rfl, rfl, rfl, rfl, rfl⟩ rfl rfl rfl rfl rfl (by kernel_rfl) Try.func4 (by kernel_rfl)
    (of_decide_eq_true (by kernel_rfl)) (by unfold Func.isWrapper; first | (rw [if_pos (by decide +kernel)]; kernel_rfl) | (rw [if_neg (by decide +kernel)]; exact ⟨rfl, rfl⟩))
    (fun os started H enc _ => lifted os started H enc)
theorem proved : Rows.QueueTellsSaid := over
#print axioms proved
end Go.Proofs.Ytnaoiekpfaganaa.queueTells
namespace Go.Proofs.Ytnaoiekpfaganaa
/-- The row, under a short name, for the claim. -/
theorem queueTells_holds : Rows.QueueTellsSaid := queueTells.proved
end Go.Proofs.Ytnaoiekpfaganaa
