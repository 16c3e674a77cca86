/- BoundDecides: for every input that can be read the law answers true, and leaves its arguments as they were. No condition. -/
import Derived.Test.YthlcnllaclkflaaRows
import Derived.Test.YthlcnllaclkflaaBoundDecides
import Derived.Test.YthlcnllaclkflaaXLaw
import Derived.WalkKit
import Derived.ProofKit
import Derived.OpenShut
import Derived.ShutString
import Derived.ChangeOld
import Derived.Below
import Derived.SizedLaws
set_option linter.unusedVariables false
set_option linter.unusedSimpArgs false
namespace Go.Proofs.Ythlcnllaclkflaa.boundDecides
open Go Go.ChangeShapes Go.WideShapes Go.ChangeAt Go.RowKit
open Go.ChangeMaps (open_string shut_string)
theorem own : ownKnob Try.prog.godebug = none := by kernel_rfl
theorem laidOut : laidOutB Try.prog = true := by kernel_rfl
set_option maxRecDepth 100000 in
theorem lifted (os : Os) (started : os.Started) (H : Type) (enc : TypeId × Value → H) :
    ReturnsInHanded {} Try.checked os 3 .any (Rows.boundDecidesSpec.pre6 enc Try.prog Try.f3 Rows.boundDecidesRow.domain false) (Rows.boundDecidesSpec.post enc Try.prog Try.f3 false true false false) := by
  refine Go.X.law_lifted (C := Try.checked) (fn := Try.f3) (tb := 4) own started (by kernel_rfl) Try.func3 rfl laidOut (by kernel_rfl) rfl Try.underlying4 ?_
    (ChangeSpec.witness6 (enc := enc) (C := Try.checked) false ⟨#[], #[.agg #[.int .u8 0, .int .u8 0, .int .u8 0, .string ByteArray.empty, .int .i64 0, .slice none 0 0, .slice none 0 0, .slice none 0 0, .int .i64 0, .int .i64 0]], []⟩ 8 (by kernel_rfl) (by kernel_rfl) (by kernel_rfl) (by kernel_rfl)) ?_
  · intro ds hds
    match ds, hds with
    | [d], _ => rfl
  intro W base args ds p hval hA hsz
  obtain ⟨v0, vs0, d0, ds0, p0, q0, hargs, rfl, rfl, h0, r0⟩ := trodAll_cons hA
  obtain ⟨rfl, rfl, rfl⟩ := trodAll_nil r0
  obtain rfl : args = #[v0] := by cases args; simp_all
  have hv := hval 0 25 v0 rfl rfl
  simp only [Value.okWide, Try.underlying25] at hv
  obtain ⟨cs, rfl, _, _⟩ := hv
  obtain ⟨m, hm⟩ := h0
  obtain ⟨x, hK, _⟩ := (BoundDecides.opens25 m).go hm
  have := BoundDecides.law_calls x cs.toList W hK
  rw [Array.toArray_toList] at this
  exact this
theorem over : Rows.boundDecidesRow.holds Try.pinned (OpenSpec.ofChange Rows.boundDecidesSpec) :=
  OpenClaim.holds_of_wide 3 Try.f3 rfl rfl rfl rfl rfl rfl rfl ⟨rfl, rfl, rfl, rfl, rfl⟩ rfl rfl rfl rfl rfl (by kernel_rfl) Try.func3 (by kernel_rfl)
    (of_decide_eq_true (by kernel_rfl)) (by unfold Func.isWrapper; first | (rw [if_pos (by decide +kernel)]; kernel_rfl) | (rw [if_neg (by decide +kernel)]; exact ⟨rfl, rfl⟩))
    (fun os started H enc _ => lifted os started H enc)
theorem proved : Rows.BoundDecidesSaid := over
#print axioms proved
end Go.Proofs.Ythlcnllaclkflaa.boundDecides
namespace Go.Proofs.Ythlcnllaclkflaa
/-- The row, under a short name, for the claim. -/
theorem boundDecides_holds : Rows.BoundDecidesSaid := boundDecides.proved
end Go.Proofs.Ythlcnllaclkflaa
