/- RequestGrows: for every input that can be read the law answers true, and leaves its arguments as they were. No condition. -/
import Derived.Test.YtnopejgpbnlmpaaRows
import Derived.Test.YtnopejgpbnlmpaaXLaw
import Derived.Test.YtnopejgpbnlmpaaActsOpen
import Derived.Test.YtnopejgpbnlmpaaLawGrows2
import Derived.WalkKit
import Derived.ProofKit
import Derived.OpenShut
import Derived.ShutString
import Derived.ChangeOld
import Derived.Below
import Derived.SizedLaws
set_option linter.unusedVariables false
namespace Go.Proofs.Ytnopejgpbnlmpaa.requestGrows
open Go Go.ChangeShapes Go.WideShapes Go.ChangeAt Go.RowKit
open Go.ChangeMaps (open_string shut_string)
theorem own : ownKnob Try.prog.godebug = none := by kernel_rfl
theorem laidOut : laidOutB Try.prog = true := by kernel_rfl
set_option maxRecDepth 100000 in
theorem lifted (os : Os) (started : os.Started) (H : Type) (enc : TypeId × Value → H) :
    ReturnsInHanded {} Try.checked os 4 .any (Rows.requestGrowsSpec.pre6 enc Try.prog Try.f4 Rows.requestGrowsRow.domain false) (Rows.requestGrowsSpec.post enc Try.prog Try.f4 false true false false) := by
  refine Go.X.law_lifted (C := Try.checked) (fn := Try.f4) (tb := 4) own started (by kernel_rfl) Try.func4 rfl laidOut (by kernel_rfl) rfl Try.underlying4 ?_
    (ChangeSpec.witness6 (enc := enc) (C := Try.checked) false ⟨#[], #[.slice none 0 0, .slice none 0 0], []⟩ 8 (by kernel_rfl) (by kernel_rfl) (by kernel_rfl) (by kernel_rfl)) ?_
  · intro ds hds
    match ds, hds with | [d1, d2], _ => rfl
  intro W base args ds p hval hA hsz
  obtain ⟨v0, vs0, d0, ds0, p0, q0, hargs, rfl, rfl, h0, r0⟩ := trodAll_cons hA
  obtain ⟨v1, vs1, d1, ds1, p1, q1, hargs1, rfl, rfl, h1, r1⟩ := trodAll_cons r0
  obtain ⟨rfl, rfl, rfl⟩ := trodAll_nil r1
  obtain rfl : args = #[v0, v1] := by cases args; simp_all
  have hv0 := hval 0 22 v0 rfl rfl
  have hv1 := hval 1 27 v1 rfl rfl
  obtain ⟨m0, hm0⟩ := h0
  obtain ⟨m1, hm1⟩ := h1
  obtain ⟨x, hK⟩ := (Req.opens22 m0).go hm0
  obtain ⟨y, hL, hLr, _⟩ := (Req.opens27 m1).go hm1
  have e0 : v0 = x.1 := Go.X.slice_arg Try.underlying22 hv0 hK
  have e1 : v1 = y.1 := Go.X.slice_arg1 Try.underlying27 hv1 hL hLr
  subst e0 e1
  exact Calls.mono (Req.Grows_law (Req.Acts_of hK).1 hLr) fun e w' ⟨v, he, hv, hm⟩ => ⟨by rw [he, hv], hm.toBelow⟩
theorem over : Rows.requestGrowsRow.holds Try.pinned (OpenSpec.ofChange Rows.requestGrowsSpec) :=
  OpenClaim.holds_of_wide 4 Try.f4 rfl rfl rfl rfl rfl rfl rfl ⟨rfl, rfl, rfl, rfl, rfl⟩ rfl rfl rfl rfl rfl (by kernel_rfl) Try.func4 (by kernel_rfl)
    (of_decide_eq_true (by kernel_rfl)) (by unfold Func.isWrapper; first | (rw [if_pos (by decide +kernel)]; kernel_rfl) | (rw [if_neg (by decide +kernel)]; exact ⟨rfl, rfl⟩))
    (fun os started H enc _ => lifted os started H enc)
theorem proved : Rows.RequestGrowsSaid := over
#print axioms proved
end Go.Proofs.Ytnopejgpbnlmpaa.requestGrows
namespace Go.Proofs.Ytnopejgpbnlmpaa
/-- The row, under a short name, for the claim. -/
theorem requestGrows_holds : Rows.RequestGrowsSaid := requestGrows.proved
end Go.Proofs.Ytnopejgpbnlmpaa
