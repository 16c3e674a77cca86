/- PostedNil: for every input the law answers true: receives that nobody posted are not there; of no queue nothing is matched. No condition. -/
import Derived.Test.YtmnkedgmpbcicaaUN2
import Derived.Test.YtmnkedgmpbcicaaRows
import Derived.WalkKit
import Derived.ProofKit
import Derived.OpenShut
import Derived.ShutString
import Derived.ChangeOld
import Derived.Below
import Derived.SizedLaws
set_option linter.unusedVariables false
namespace Go.Proofs.Ytmnkedgmpbcicaa.postedNil
open Go Go.ChangeShapes Go.WideShapes Go.ChangeAt Go.RowKit
theorem own : ownKnob Try.prog.godebug = none := by kernel_rfl
theorem laidOut : laidOutB Try.prog = true := by kernel_rfl
set_option maxRecDepth 100000 in
theorem lifted (os : Os) (started : os.Started) (H : Type) (enc : TypeId × Value → H) :
    ReturnsInHanded {} Try.checked os 7 .any (Rows.postedNilSpec.pre6 enc Try.prog Try.f7 Rows.postedNilRow.domain false) (Rows.postedNilSpec.post enc Try.prog Try.f7 false true false false) := by
  refine Go.X.law_lifted (C := Try.checked) (fn := Try.f7) (tb := 4) own started (by kernel_rfl) Try.func7 rfl laidOut (by kernel_rfl) rfl Try.underlying4 ?_
    (ChangeSpec.witness6 (enc := enc) (C := Try.checked) false ⟨#[], #[.agg #[.int .u8 0, .string ⟨#[]⟩, .int .i64 0, .int .i64 0, .int .i64 0, .int .i64 0, .int .i64 0, .int .i64 0, .bool false, .string ⟨#[]⟩, .int .i64 0, .int .i64 0, .int .i64 0, .int .i64 0, .int .i64 0, .bool false, .int .i64 0, .int .i64 0]], []⟩ 8 (by kernel_rfl) (by kernel_rfl) (by kernel_rfl) (by kernel_rfl)) ?_
  · intro ds hds
    match ds, hds with | [d1], _ => rfl
  intro W base args ds p hval hA hsz
  obtain ⟨v0, vs0, d0, ds0, p0, q0, hargs, rfl, rfl, h0, r0⟩ := trodAll_cons hA
  obtain ⟨rfl, rfl, rfl⟩ := trodAll_nil r0
  obtain rfl : args = #[v0] := by cases args; simp_all
  have hv0 := hval 0 48 v0 rfl rfl
  simp only [Value.okWide] at hv0
  obtain ⟨cs, rfl, _, _⟩ := hv0
  obtain ⟨m0, hm0⟩ := h0
  obtain ⟨a, hK0⟩ := (Que.opensB m0).go hm0
  have hc : cs = a.enc.toArray := by
    have : (Value.agg cs).cells.toList = a.enc := hK0
    rw [← this]; simp [Value.cells]
  subst hc
  have hq := Que.PostedNil_ok W a
  exact Calls.mono hq fun e w' ⟨v, he, hv, hm⟩ => ⟨by rw [he, hv], hm.toBelow⟩
theorem over : Rows.postedNilRow.holds Try.pinned (OpenSpec.ofChange Rows.postedNilSpec) :=
  OpenClaim.holds_of_wide 7 Try.f7 rfl rfl rfl rfl rfl rfl rfl ⟨rfl, rfl, rfl, rfl, rfl⟩ rfl rfl rfl rfl rfl (by kernel_rfl) Try.func7 (by kernel_rfl)
    (of_decide_eq_true (by kernel_rfl)) (by unfold Func.isWrapper; first | (rw [if_pos (by decide +kernel)]; kernel_rfl) | (rw [if_neg (by decide +kernel)]; exact ⟨rfl, rfl⟩))
    (fun os started H enc _ => lifted os started H enc)
theorem proved : Rows.PostedNilSaid := over
#print axioms proved
end Go.Proofs.Ytmnkedgmpbcicaa.postedNil
namespace Go.Proofs.Ytmnkedgmpbcicaa
/-- The row, under a short name, for the claim. -/
theorem postedNil_holds : Rows.PostedNilSaid := postedNil.proved
end Go.Proofs.Ytmnkedgmpbcicaa
