/- VmCalls: for every input the law answers true: the call of any kind has its arguments in the fields that the document says, as they were pushed. No condition. -/
import Derived.Test.YtmbgbffgkdcieaaBW4
import Derived.Test.YtmbgbffgkdcieaaRows
import Derived.WalkKit
import Derived.ProofKit
import Derived.OpenShut
import Derived.ShutString
import Derived.ChangeOld
import Derived.Below
import Derived.SizedLaws
set_option linter.unusedVariables false
namespace Go.Proofs.Ytmbgbffgkdcieaa.vmCalls
open Go Go.ChangeShapes Go.WideShapes Go.ChangeAt Go.RowKit
open Go.ChangeMaps (open_string shut_string)
theorem own : ownKnob Try.prog.godebug = none := by kernel_rfl
theorem laidOut : laidOutB Try.prog = true := by kernel_rfl
theorem int_of {W' : World} {t : TypeId} {v : Value} {k : IntKind} (ht : Try.prog.underlying t = some (.int k)) (h : Value.okWide Try.prog W' .any 0 t v) : ∃ n, v = .int k n ∧ (Lit.int k n).wf = true := by
  simp only [Value.okWide, ht, Cell.okWide] at h
  cases v <;> simp_all [Cell.ok, IntKind.has, Lit.wf]
set_option maxRecDepth 100000 in
theorem lifted (os : Os) (started : os.Started) (H : Type) (enc : TypeId × Value → H) :
    ReturnsInHanded {} Try.checked os 3 .any (Rows.vmCallsSpec.pre6 enc Try.prog Try.f3 Rows.vmCallsRow.domain false) (Rows.vmCallsSpec.post enc Try.prog Try.f3 false true false false) := by
  refine Go.X.law_lifted (C := Try.checked) (fn := Try.f3) (tb := 4) own started (by kernel_rfl) Try.func3 rfl laidOut (by kernel_rfl) rfl Try.underlying4 ?_
    (ChangeSpec.witness6 (enc := enc) (C := Try.checked) false ⟨#[], #[.int .u8 0, .int .u8 0, .slice none 0 0], []⟩ 8 (by kernel_rfl) (by kernel_rfl) (by kernel_rfl) (by kernel_rfl)) ?_
  · intro ds hds
    match ds, hds with | [d1, d2, d3], _ => rfl
  intro W base args ds p hval hA hsz
  obtain ⟨v0, vs0, d0, ds0, p0, q0, hargs, rfl, rfl, h0, r0⟩ := trodAll_cons hA
  obtain ⟨v1, vs1, d1, ds1, p1, q1, hargs1, rfl, rfl, h1, r1⟩ := trodAll_cons r0
  obtain ⟨v2, vs2, d2, ds2, p2, q2, hargs2, rfl, rfl, h2, r2⟩ := trodAll_cons r1
  obtain ⟨rfl, rfl, rfl⟩ := trodAll_nil r2
  obtain rfl : args = #[v0, v1, v2] := by cases args; simp_all
  obtain ⟨n0, rfl, w0⟩ := int_of Try.underlying5 (hval 0 5 v0 rfl rfl)
  obtain ⟨n1, rfl, w1⟩ := int_of Try.underlying5 (hval 1 5 v1 rfl rfl)
  have hb : ∀ n, (Lit.int IntKind.u8 n).wf = true → 0 ≤ n ∧ n ≤ 255 := fun n w0 => by
    simp [Lit.wf] at w0
    have e1 : IntKind.u8.min = 0 := by decide
    have e2 : IntKind.u8.max = 255 := by decide
    omega
  have hv2 := hval 2 22 v2 rfl rfl
  obtain ⟨m2, hm2⟩ := h2
  obtain ⟨x, hK⟩ := (Go.X.opens_slice (n := m2) (k := Go.X.Sh.int .i64) Try.underlying22 (by kernel_rfl) (fun m _ => Go.X.opens_int Try.underlying2)).go hm2
  have e2 : v2 = x.1 := Go.X.slice_arg Try.underlying22 hv2 hK
  subst e2
  have hr := Go.X.reads_sh hK (fun n => [Value.int .i64 n]) (fun _ => rfl) (fun a d hd => hd.1)
  have hr' : Go.X.reads W 1 x.1 x.2.length (Go.X.i64s x.2) := by
    have e : ∀ l : List Int, l.flatMap (fun n => [Value.int .i64 n]) = Go.X.i64s l := fun l => by
      unfold Go.X.i64s
      induction l with
      | nil => rfl
      | cons a l ih => simp [ih]
    rw [← e x.2]; exact hr
  exact Calls.mono (Tr.VmCalls_ok (hb _ w0).1 (hb _ w0).2 (hb _ w1).1 (hb _ w1).2 hr') fun e w' ⟨v, he, hv, hm⟩ => ⟨by rw [he, hv], hm.toBelow⟩
theorem over : Rows.vmCallsRow.holds Try.pinned (OpenSpec.ofChange Rows.vmCallsSpec) :=
  OpenClaim.holds_of_wide 3 Try.f3 rfl rfl rfl rfl rfl rfl rfl ⟨rfl, rfl, rfl, rfl, rfl⟩ rfl rfl rfl rfl rfl (by kernel_rfl) Try.func3 (by kernel_rfl)
    (of_decide_eq_true (by kernel_rfl)) (by unfold Func.isWrapper; first | (rw [if_pos (by decide +kernel)]; kernel_rfl) | (rw [if_neg (by decide +kernel)]; exact ⟨rfl, rfl⟩))
    (fun os started H enc _ => lifted os started H enc)
theorem proved : Rows.VmCallsSaid := over
#print axioms proved
end Go.Proofs.Ytmbgbffgkdcieaa.vmCalls
namespace Go.Proofs.Ytmbgbffgkdcieaa
/-- The row, under a short name, for the claim. -/
theorem vmCalls_holds : Rows.VmCallsSaid := vmCalls.proved
end Go.Proofs.Ytmbgbffgkdcieaa
