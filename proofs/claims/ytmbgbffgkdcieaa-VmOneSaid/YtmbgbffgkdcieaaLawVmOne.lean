/- VmOne: for every input the law answers true: an operation with two sides of any two numbers is what the document says. No condition. -/
import Derived.Test.YtmbgbffgkdcieaaBV3
import Derived.Test.YtmbgbffgkdcieaaRows
import Derived.WalkKit
import Derived.ProofKit
import Derived.OpenShut
import Derived.ShutString
import Derived.ChangeOld
import Derived.Below
import Derived.SizedLaws
set_option linter.unusedVariables false
namespace Go.Proofs.Ytmbgbffgkdcieaa.vmOne
open Go Go.ChangeShapes Go.WideShapes Go.ChangeAt Go.RowKit
open Go.ChangeMaps (open_string shut_string)
theorem own : ownKnob Try.prog.godebug = none := by kernel_rfl
theorem laidOut : laidOutB Try.prog = true := by kernel_rfl
theorem int_of {W' : World} {t : TypeId} {v : Value} {k : IntKind} (ht : Try.prog.underlying t = some (.int k)) (h : Value.okWide Try.prog W' .any 0 t v) : ∃ n, v = .int k n ∧ (Lit.int k n).wf = true := by
  simp only [Value.okWide, ht, Cell.okWide] at h
  cases v <;> simp_all [Cell.ok, IntKind.has, Lit.wf]
set_option maxRecDepth 100000 in
theorem lifted (os : Os) (started : os.Started) (H : Type) (enc : TypeId × Value → H) :
    ReturnsInHanded {} Try.checked os 4 .any (Rows.vmOneSpec.pre6 enc Try.prog Try.f4 Rows.vmOneRow.domain false) (Rows.vmOneSpec.post enc Try.prog Try.f4 false true false false) := by
  refine Go.X.law_lifted (C := Try.checked) (fn := Try.f4) (tb := 4) own started (by kernel_rfl) Try.func4 rfl laidOut (by kernel_rfl) rfl Try.underlying4 ?_
    (ChangeSpec.witness6 (enc := enc) (C := Try.checked) false ⟨#[], #[.int .u8 0, .int .i64 0, .int .i64 0], []⟩ 8 (by kernel_rfl) (by kernel_rfl) (by kernel_rfl) (by kernel_rfl)) ?_
  · intro ds hds
    match ds, hds with | [d1, d2, d3], _ => rfl
  intro W base args ds p hval hA hsz
  obtain ⟨v0, vs0, d0, ds0, p0, q0, hargs, rfl, rfl, h0, r0⟩ := trodAll_cons hA
  obtain ⟨v1, vs1, d1, ds1, p1, q1, hargs1, rfl, rfl, h1, r1⟩ := trodAll_cons r0
  obtain ⟨v2, vs2, d2, ds2, p2, q2, hargs2, rfl, rfl, h2, r2⟩ := trodAll_cons r1
  obtain ⟨rfl, rfl, rfl⟩ := trodAll_nil r2
  obtain rfl : args = #[v0, v1, v2] := by cases args; simp_all
  obtain ⟨n0, rfl, w0⟩ := int_of Try.underlying5 (hval 0 5 v0 rfl rfl)
  obtain ⟨n1, rfl, w1⟩ := int_of Try.underlying2 (hval 1 2 v1 rfl rfl)
  obtain ⟨n2, rfl, w2⟩ := int_of Try.underlying2 (hval 2 2 v2 rfl rfl)
  have hw : 0 ≤ n0 ∧ n0 ≤ 255 := by
    simp [Lit.wf] at w0
    have e1 : IntKind.u8.min = 0 := by decide
    have e2 : IntKind.u8.max = 255 := by decide
    omega
  exact Calls.mono (Tr.VmOne_ok hw.1 hw.2 W) fun e w' ⟨v, he, hv, hm⟩ => ⟨by rw [he, hv], hm.toBelow⟩
theorem over : Rows.vmOneRow.holds Try.pinned (OpenSpec.ofChange Rows.vmOneSpec) :=
  OpenClaim.holds_of_wide 4 Try.f4 rfl rfl rfl rfl rfl rfl rfl ⟨rfl, rfl, rfl, rfl, rfl⟩ rfl rfl rfl rfl rfl (by kernel_rfl) Try.func4 (by kernel_rfl)
    (of_decide_eq_true (by kernel_rfl)) (by unfold Func.isWrapper; first | (rw [if_pos (by decide +kernel)]; kernel_rfl) | (rw [if_neg (by decide +kernel)]; exact ⟨rfl, rfl⟩))
    (fun os started H enc _ => lifted os started H enc)
theorem proved : Rows.VmOneSaid := over
#print axioms proved
end Go.Proofs.Ytmbgbffgkdcieaa.vmOne
namespace Go.Proofs.Ytmbgbffgkdcieaa
/-- The row, under a short name, for the claim. -/
theorem vmOne_holds : Rows.VmOneSaid := vmOne.proved
end Go.Proofs.Ytmbgbffgkdcieaa
