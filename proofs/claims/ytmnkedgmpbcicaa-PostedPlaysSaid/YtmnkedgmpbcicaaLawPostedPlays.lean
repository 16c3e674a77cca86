/- PostedPlays: for every input the law answers true: whatever is sent, posted and matched: what is answered, and which receives wait, is what the chapter says. No condition. -/
import Derived.Test.YtmnkedgmpbcicaaUW6
import Derived.Test.YtmnkedgmpbcicaaRows
import Derived.WalkKit
import Derived.ProofKit
import Derived.OpenShut
import Derived.ShutString
import Derived.ChangeOld
import Derived.Below
import Derived.SizedLaws
set_option linter.unusedVariables false
namespace Go.Proofs.Ytmnkedgmpbcicaa.postedPlays
open Go Go.ChangeShapes Go.WideShapes Go.ChangeAt Go.RowKit
theorem own : ownKnob Try.prog.godebug = none := by kernel_rfl
theorem laidOut : laidOutB Try.prog = true := by kernel_rfl
set_option maxRecDepth 100000 in
theorem lifted (os : Os) (started : os.Started) (H : Type) (enc : TypeId × Value → H) :
    ReturnsInHanded {} Try.checked os 9 .any (Rows.postedPlaysSpec.pre6 enc Try.prog Try.f9 Rows.postedPlaysRow.domain false) (Rows.postedPlaysSpec.post enc Try.prog Try.f9 false true false false) := by
  refine Go.X.law_lifted (C := Try.checked) (fn := Try.f9) (tb := 4) own started (by kernel_rfl) Try.func9 rfl laidOut (by kernel_rfl) rfl Try.underlying4 ?_
    (ChangeSpec.witness6 (enc := enc) (C := Try.checked) false ⟨#[], #[.slice none 0 0], []⟩ 8 (by kernel_rfl) (by kernel_rfl) (by kernel_rfl) (by kernel_rfl)) ?_
  · intro ds hds
    match ds, hds with | [d1], _ => rfl
  intro W base args ds p hval hA hsz
  obtain ⟨v0, vs0, d0, ds0, p0, q0, hargs, rfl, rfl, h0, r0⟩ := trodAll_cons hA
  obtain ⟨rfl, rfl, rfl⟩ := trodAll_nil r0
  obtain rfl : args = #[v0] := by cases args; simp_all
  have hv0 := hval 0 22 v0 rfl rfl
  obtain ⟨m0, hm0⟩ := h0
  obtain ⟨x0, hK0⟩ := (Que.opensBs m0).go hm0
  have e0 : v0 = x0.1 := Go.X.slice_arg Que.vBcs hv0 hK0
  subst e0
  have hq := Que.PostedPlays_ok (Que.Bcts_of hK0)
  exact Calls.mono hq fun e w' ⟨v, he, hv, hm⟩ => ⟨by rw [he, hv], hm.toBelow⟩
theorem over : Rows.postedPlaysRow.holds Try.pinned (OpenSpec.ofChange Rows.postedPlaysSpec) :=
  OpenClaim.holds_of_wide 9 Try.f9 rfl rfl rfl rfl rfl rfl rfl ⟨rfl, rfl, rfl, rfl, rfl⟩ rfl rfl rfl rfl rfl (by kernel_rfl) Try.func9 (by kernel_rfl)
    (of_decide_eq_true (by kernel_rfl)) (by unfold Func.isWrapper; first | (rw [if_pos (by decide +kernel)]; kernel_rfl) | (rw [if_neg (by decide +kernel)]; exact ⟨rfl, rfl⟩))
    (fun os started H enc _ => lifted os started H enc)
theorem proved : Rows.PostedPlaysSaid := over
#print axioms proved
end Go.Proofs.Ytmnkedgmpbcicaa.postedPlays
namespace Go.Proofs.Ytmnkedgmpbcicaa
/-- The row, under a short name, for the claim. -/
theorem postedPlays_holds : Rows.PostedPlaysSaid := postedPlays.proved
end Go.Proofs.Ytmnkedgmpbcicaa
