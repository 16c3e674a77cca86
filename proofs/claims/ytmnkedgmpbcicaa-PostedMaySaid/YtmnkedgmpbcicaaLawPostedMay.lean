/- PostedMay: for every input the law answers true: the messages that may be each receive's, and any probe's, are those that the chapter says. No condition. -/
import Derived.Test.YtmnkedgmpbcicaaUM5
import Derived.Test.YtmnkedgmpbcicaaRows
import Derived.WalkKit
import Derived.ProofKit
import Derived.OpenShut
import Derived.ShutString
import Derived.ChangeOld
import Derived.Below
import Derived.SizedLaws
set_option linter.unusedVariables false
namespace Go.Proofs.Ytmnkedgmpbcicaa.postedMay
open Go Go.ChangeShapes Go.WideShapes Go.ChangeAt Go.RowKit
theorem own : ownKnob Try.prog.godebug = none := by kernel_rfl
theorem laidOut : laidOutB Try.prog = true := by kernel_rfl
set_option maxRecDepth 100000 in
theorem lifted (os : Os) (started : os.Started) (H : Type) (enc : TypeId × Value → H) :
    ReturnsInHanded {} Try.checked os 8 .any (Rows.postedMaySpec.pre6 enc Try.prog Try.f8 Rows.postedMayRow.domain false) (Rows.postedMaySpec.post enc Try.prog Try.f8 false true false false) := by
  refine Go.X.law_lifted (C := Try.checked) (fn := Try.f8) (tb := 4) own started (by kernel_rfl) Try.func8 rfl laidOut (by kernel_rfl) rfl Try.underlying4 ?_
    (ChangeSpec.witness6 (enc := enc) (C := Try.checked) false ⟨#[], #[.slice none 0 0, .agg #[.string ⟨#[]⟩, .int .i64 0, .int .i64 0, .int .i64 0, .int .i64 0, .int .i64 0, .bool false, .int .i64 0, .int .i64 0]], []⟩ 8 (by kernel_rfl) (by kernel_rfl) (by kernel_rfl) (by kernel_rfl)) ?_
  · intro ds hds
    match ds, hds with | [d1, d2], _ => rfl
  intro W base args ds p hval hA hsz
  obtain ⟨v0, vs0, d0, ds0, p0, q0, hargs, rfl, rfl, h0, r0⟩ := trodAll_cons hA
  obtain ⟨v1, vs1, d1, ds1, p1, q1, hargs1, rfl, rfl, h1, r1⟩ := trodAll_cons r0
  obtain ⟨rfl, rfl, rfl⟩ := trodAll_nil r1
  obtain rfl : args = #[v0, v1] := by cases args; simp_all
  have hv0 := hval 0 22 v0 rfl rfl
  obtain ⟨m0, hm0⟩ := h0
  obtain ⟨x0, hK0⟩ := (Que.opensBs m0).go hm0
  have e0 : v0 = x0.1 := Go.X.slice_arg Que.vBcs hv0 hK0
  subst e0
  have hv1 := hval 1 24 v1 rfl rfl
  simp only [Value.okWide] at hv1
  obtain ⟨cs, rfl, _, _⟩ := hv1
  obtain ⟨m1, hm1⟩ := h1
  obtain ⟨r, hK1⟩ := (Que.opensR m1).go hm1
  have hc : cs = r.enc.toArray := by
    have : (Value.agg cs).cells.toList = r.enc := hK1
    rw [← this]; simp [Value.cells]
  subst hc
  have hq := Que.PostedMay_ok (Que.Bcts_of hK0) r
  exact Calls.mono hq fun e w' ⟨v, he, hv, hm⟩ => ⟨by rw [he, hv], hm.toBelow⟩
theorem over : Rows.postedMayRow.holds Try.pinned (OpenSpec.ofChange Rows.postedMaySpec) :=
  OpenClaim.holds_of_wide 8 Try.f8 rfl rfl rfl rfl rfl rfl rfl ⟨rfl, rfl, rfl, rfl, rfl⟩ rfl rfl rfl rfl rfl (by kernel_rfl) Try.func8 (by kernel_rfl)
    (of_decide_eq_true (by kernel_rfl)) (by unfold Func.isWrapper; first | (rw [if_pos (by decide +kernel)]; kernel_rfl) | (rw [if_neg (by decide +kernel)]; exact ⟨rfl, rfl⟩))
    (fun os started H enc _ => lifted os started H enc)
theorem proved : Rows.PostedMaySaid := over
#print axioms proved
end Go.Proofs.Ytmnkedgmpbcicaa.postedMay
namespace Go.Proofs.Ytmnkedgmpbcicaa
/-- The row, under a short name, for the claim. -/
theorem postedMay_holds : Rows.PostedMaySaid := postedMay.proved
end Go.Proofs.Ytmnkedgmpbcicaa
