/- QueueNil: for every input that can be read the law answers true, and leaves its arguments as they were. No condition. -/
import Derived.Test.YtnnppjfpiopgfaaRows
import Derived.Test.YtnnppjfpiopgfaaXLaw
import Derived.Test.YtnnppjfpiopgfaaOpen
import Derived.WalkKit
import Derived.ProofKit
import Derived.OpenShut
import Derived.ShutString
import Derived.ChangeOld
import Derived.Below
import Derived.SizedLaws
set_option linter.unusedVariables false
namespace Go.Proofs.Ytnnppjfpiopgfaa.queueNil
open Go Go.ChangeShapes Go.WideShapes Go.ChangeAt Go.RowKit
open Go.ChangeMaps (open_string shut_string)
theorem own : ownKnob Try.prog.godebug = none := by kernel_rfl
theorem laidOut : laidOutB Try.prog = true := by kernel_rfl
set_option maxRecDepth 100000 in
theorem lifted (os : Os) (started : os.Started) (H : Type) (enc : TypeId × Value → H) :
    ReturnsInHanded {} Try.checked os 8 .any (Rows.queueNilSpec.pre6 enc Try.prog Try.f8 Rows.queueNilRow.domain false) (Rows.queueNilSpec.post enc Try.prog Try.f8 false true false false) := by
  refine Go.X.law_lifted (C := Try.checked) (fn := Try.f8) (tb := 4) own started (by kernel_rfl) Try.func8 rfl laidOut (by kernel_rfl) rfl Try.underlying4 ?_
    (ChangeSpec.witness6 (enc := enc) (C := Try.checked) false ⟨#[], #[.agg #[.string ByteArray.empty, .int .i64 0, .int .i64 0, .int .i64 0, .int .i64 0, .int .i64 0, .int .i64 0, .bool false]], []⟩ 8 (by kernel_rfl) (by kernel_rfl) (by kernel_rfl) (by kernel_rfl)) ?_
  · intro ds hds
    match ds, hds with | [d], _ => rfl
  intro W base args ds p hval hA hsz
  obtain ⟨v0, vs0, d0, ds0, p0, q0, hargs, rfl, rfl, h0, r0⟩ := trodAll_cons hA
  obtain ⟨rfl, rfl, rfl⟩ := trodAll_nil r0
  obtain rfl : args = #[v0] := by cases args; simp_all
  have hv := hval 0 31 v0 rfl rfl
  simp only [Value.okWide, Try.underlying31] at hv
  obtain ⟨cs, rfl, _, _⟩ := hv
  obtain ⟨k, hk⟩ := h0
  obtain ⟨m, hc0, _⟩ := (Que.opens31 k).go hk
  have hc : cs = m.enc.toArray := by rw [← hc0]; simp [Value.cells]
  subst hc
  exact Calls.mono (Que.Nil_ok W m) fun e w' ⟨v, he, hv, hm⟩ => ⟨by rw [he, hv], hm.toBelow⟩
theorem over : Rows.queueNilRow.holds Try.pinned (OpenSpec.ofChange Rows.queueNilSpec) :=
  OpenClaim.holds_of_wide 8 Try.f8 rfl rfl rfl rfl rfl rfl rfl ⟨rfl, rfl, rfl, rfl, rfl⟩ rfl rfl rfl rfl rfl (by kernel_rfl) Try.func8 (by kernel_rfl)
    (of_decide_eq_true (by kernel_rfl)) (by unfold Func.isWrapper; first | (rw [if_pos (by decide +kernel)]; kernel_rfl) | (rw [if_neg (by decide +kernel)]; exact ⟨rfl, rfl⟩))
    (fun os started H enc _ => lifted os started H enc)
theorem proved : Rows.QueueNilSaid := over
#print axioms proved
end Go.Proofs.Ytnnppjfpiopgfaa.queueNil
namespace Go.Proofs.Ytnnppjfpiopgfaa
/-- The row, under a short name, for the claim. -/
theorem queueNil_holds : Rows.QueueNilSaid := queueNil.proved
end Go.Proofs.Ytnnppjfpiopgfaa
