/- PostedGrows: for every input the law answers true: what may be that of a receive only becomes more, till it is matched. No condition. -/
import Derived.Test.YtmnkedgmpbcicaaUG3
import Derived.Test.YtmnkedgmpbcicaaRows
import Derived.WalkKit
import Derived.ProofKit
import Derived.OpenShut
import Derived.ShutString
import Derived.ChangeOld
import Derived.Below
import Derived.SizedLaws
set_option linter.unusedVariables false
namespace Go.Proofs.Ytmnkedgmpbcicaa.postedGrows
open Go Go.ChangeShapes Go.WideShapes Go.ChangeAt Go.RowKit
theorem own : ownKnob Try.prog.godebug = none := by kernel_rfl
theorem laidOut : laidOutB Try.prog = true := by kernel_rfl
set_option maxRecDepth 100000 in
theorem u8_of {W' : World} {v : Value} (h : Value.okWide Try.prog W' .any 0 5 v) : ∃ n, v = .int .u8 n ∧ 0 ≤ n := by
  simp only [Value.okWide, Que.vU8, Cell.okWide] at h
  cases v <;> simp_all [Cell.ok, IntKind.has]
  have := h.2.1
  simpa [IntKind.min, IntKind.signed] using this
set_option maxRecDepth 100000 in
theorem lifted (os : Os) (started : os.Started) (H : Type) (enc : TypeId × Value → H) :
    ReturnsInHanded {} Try.checked os 5 .any (Rows.postedGrowsSpec.pre6 enc Try.prog Try.f5 Rows.postedGrowsRow.domain false) (Rows.postedGrowsSpec.post enc Try.prog Try.f5 false true false false) := by
  refine Go.X.law_lifted (C := Try.checked) (fn := Try.f5) (tb := 4) own started (by kernel_rfl) Try.func5 rfl laidOut (by kernel_rfl) rfl Try.underlying4 ?_
    (ChangeSpec.witness6 (enc := enc) (C := Try.checked) false ⟨#[], #[.slice none 0 0, .slice none 0 0, .int .u8 0], []⟩ 8 (by kernel_rfl) (by kernel_rfl) (by kernel_rfl) (by kernel_rfl)) ?_
  · intro ds hds
    match ds, hds with | [d1, d2, d3], _ => rfl
  intro W base args ds p hval hA hsz
  obtain ⟨v0, vs0, d0, ds0, p0, q0, hargs, rfl, rfl, h0, r0⟩ := trodAll_cons hA
  obtain ⟨v1, vs1, d1, ds1, p1, q1, hargs1, rfl, rfl, h1, r1⟩ := trodAll_cons r0
  obtain ⟨v2, vs2, d2, ds2, p2, q2, hargs2, rfl, rfl, h2, r2⟩ := trodAll_cons r1
  obtain ⟨rfl, rfl, rfl⟩ := trodAll_nil r2
  obtain rfl : args = #[v0, v1, v2] := by cases args; simp_all
  have hv0 := hval 0 22 v0 rfl rfl
  obtain ⟨m0, hm0⟩ := h0
  obtain ⟨x0, hK0⟩ := (Que.opensBs m0).go hm0
  have e0 : v0 = x0.1 := Go.X.slice_arg Que.vBcs hv0 hK0
  subst e0
  have hv1 := hval 1 22 v1 rfl rfl
  obtain ⟨m1, hm1⟩ := h1
  obtain ⟨x1, hK1⟩ := (Que.opensBs m1).go hm1
  have e1 : v1 = x1.1 := Go.X.slice_arg Que.vBcs hv1 hK1
  subst e1
  obtain ⟨n2, rfl, hn2⟩ := u8_of (hval 2 5 v2 rfl rfl)
  have hq := Que.PostedGrows_ok (Que.Bcts_of hK0) (Que.Bcts_of hK1) hn2
  exact Calls.mono hq fun e w' ⟨v, he, hv, hm⟩ => ⟨by rw [he, hv], hm.toBelow⟩
theorem over : Rows.postedGrowsRow.holds Try.pinned (OpenSpec.ofChange Rows.postedGrowsSpec) :=
  OpenClaim.holds_of_wide 5 Try.f5 rfl rfl rfl rfl rfl rfl rfl ⟨rfl, rfl, rfl, rfl, rfl⟩ rfl rfl rfl rfl rfl (by kernel_rfl) Try.func5 (by kernel_rfl)
    (of_decide_eq_true (by kernel_rfl)) (by unfold Func.isWrapper; first | (rw [if_pos (by decide +kernel)]; kernel_rfl) | (rw [if_neg (by decide +kernel)]; exact ⟨rfl, rfl⟩))
    (fun os started H enc _ => lifted os started H enc)
theorem proved : Rows.PostedGrowsSaid := over
#print axioms proved
end Go.Proofs.Ytmnkedgmpbcicaa.postedGrows
namespace Go.Proofs.Ytmnkedgmpbcicaa
/-- The row, under a short name, for the claim. -/
theorem postedGrows_holds : Rows.PostedGrowsSaid := postedGrows.proved
end Go.Proofs.Ytmnkedgmpbcicaa
