/- RequestNil: for every input that can be read the law answers true, and leaves its arguments as they were. No condition. -/
import Derived.Test.YtnopejgpbnlmpaaRows
import Derived.Test.YtnopejgpbnlmpaaXLaw
import Derived.Test.YtnopejgpbnlmpaaActsOpen
import Derived.Test.YtnopejgpbnlmpaaNil
import Derived.WalkKit
import Derived.ProofKit
import Derived.OpenShut
import Derived.ShutString
import Derived.ChangeOld
import Derived.Below
import Derived.SizedLaws
set_option linter.unusedVariables false
namespace Go.Proofs.Ytnopejgpbnlmpaa.requestNil
open Go Go.ChangeShapes Go.WideShapes Go.ChangeAt Go.RowKit
open Go.ChangeMaps (open_string shut_string)
theorem own : ownKnob Try.prog.godebug = none := by kernel_rfl
theorem laidOut : laidOutB Try.prog = true := by kernel_rfl
set_option maxRecDepth 100000 in
theorem lifted (os : Os) (started : os.Started) (H : Type) (enc : TypeId × Value → H) :
    ReturnsInHanded {} Try.checked os 5 .any (Rows.requestNilSpec.pre6 enc Try.prog Try.f5 Rows.requestNilRow.domain false) (Rows.requestNilSpec.post enc Try.prog Try.f5 false true false false) := by
  refine Go.X.law_lifted (C := Try.checked) (fn := Try.f5) (tb := 4) own started (by kernel_rfl) Try.func5 rfl laidOut (by kernel_rfl) rfl Try.underlying4 ?_
    (ChangeSpec.witness6 (enc := enc) (C := Try.checked) false ⟨#[], #[.agg #[.int .u8 0, .bool false, .slice none 0 0, .int .i64 0, .int .i64 0, .int .i64 0]], []⟩ 8 (by kernel_rfl) (by kernel_rfl) (by kernel_rfl) (by kernel_rfl)) ?_
  · intro ds hds
    match ds, hds with | [d], _ => rfl
  intro W base args ds p hval hA hsz
  obtain ⟨v0, vs0, d0, ds0, p0, q0, hargs, rfl, rfl, h0, r0⟩ := trodAll_cons hA
  obtain ⟨rfl, rfl, rfl⟩ := trodAll_nil r0
  obtain rfl : args = #[v0] := by cases args; simp_all
  have hv := hval 0 29 v0 rfl rfl
  simp only [Value.okWide, Try.underlying29] at hv
  obtain ⟨cs, rfl, _, _⟩ := hv
  obtain ⟨m, hm⟩ := h0
  obtain ⟨a, rfl0, hok, _⟩ := (Req.opens29 m).go hm
  have hc : cs = a.enc.toArray := by rw [← rfl0]; simp [Value.cells]
  subst hc
  exact Calls.mono (Req.Nil_ok hok) fun e w' ⟨v, he, hv, hm⟩ => ⟨by rw [he, hv], hm.toBelow⟩
theorem over : Rows.requestNilRow.holds Try.pinned (OpenSpec.ofChange Rows.requestNilSpec) :=
  OpenClaim.holds_of_wide 5 Try.f5 rfl rfl rfl rfl rfl rfl rfl ⟨rfl, rfl, rfl, rfl, rfl⟩ rfl rfl rfl rfl rfl (by kernel_rfl) Try.func5 (by kernel_rfl)
    (of_decide_eq_true (by kernel_rfl)) (by unfold Func.isWrapper; first | (rw [if_pos (by decide +kernel)]; kernel_rfl) | (rw [if_neg (by decide +kernel)]; exact ⟨rfl, rfl⟩))
    (fun os started H enc _ => lifted os started H enc)
theorem proved : Rows.RequestNilSaid := over
#print axioms proved
end Go.Proofs.Ytnopejgpbnlmpaa.requestNil
namespace Go.Proofs.Ytnopejgpbnlmpaa
/-- The row, under a short name, for the claim. -/
theorem requestNil_holds : Rows.RequestNilSaid := requestNil.proved
end Go.Proofs.Ytnopejgpbnlmpaa
