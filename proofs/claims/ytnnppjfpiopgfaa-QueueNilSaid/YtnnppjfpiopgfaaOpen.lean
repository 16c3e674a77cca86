/- What a message reads as. -/
import Derived.Test.YtnnppjfpiopgfaaXSh
import Derived.Test.YtnnppjfpiopgfaaNil
set_option linter.unusedVariables false
set_option maxRecDepth 4000
namespace Go.Proofs.Ytnnppjfpiopgfaa.Que
open Go Go.X Go.RowKit

def M.fine (m : M) : Prop := (Lit.int .i64 m.frm).wf = true ∧ (Lit.int .i64 m.to).wf = true ∧ (Lit.int .i64 m.call).wf = true ∧ (Lit.int .i64 m.tag).wf = true ∧ (Lit.int .i64 m.val).wf = true ∧ (Lit.int .i64 m.size).wf = true ∧ m.key.size ≤ maxLen
def shM : Sh M := ⟨8, fun w m cs => cs = m.enc ∧ m.fine⟩
theorem opens31 (n : Nat) : OpensAt Try.prog n shM 31 :=
  opens_as (opens_struct Try.underlying31 (by kernel_rfl) (fun m _ => fields_cons rfl (by kernel_rfl) (opens_string Try.underlying9) (fields_cons rfl (by kernel_rfl) (opens_int Try.underlying3) (fields_cons rfl (by kernel_rfl) (opens_int Try.underlying3)
    (fields_cons rfl (by kernel_rfl) (opens_int Try.underlying3) (fields_cons rfl (by kernel_rfl) (opens_int Try.underlying3) (fields_cons rfl (by kernel_rfl) (opens_int Try.underlying2) (fields_cons rfl (by kernel_rfl) (opens_int Try.underlying3) (fields_one rfl (by kernel_rfl) (opens_bool Try.underlying4))))))))))
    (fun x => (⟨x.1, x.2.1, x.2.2.1, x.2.2.2.1, x.2.2.2.2.1, x.2.2.2.2.2.1, x.2.2.2.2.2.2.1, x.2.2.2.2.2.2.2⟩ : M))
    (fun w v cs h => by
      obtain ⟨c0, d0, rfl, _, ⟨rfl, h0⟩, c1, d1, rfl, _, ⟨rfl, h1⟩, c2, d2, rfl, _, ⟨rfl, h2⟩, c3, d3, rfl, _, ⟨rfl, h3⟩, c4, d4, rfl, _, ⟨rfl, h4⟩, c5, d5, rfl, _, ⟨rfl, h5⟩, c6, d6, rfl, _, ⟨rfl, h6⟩, h7⟩ := h
      subst h7
      exact ⟨rfl, h1, h2, h3, h4, h5, h6, h0⟩)
end Go.Proofs.Ytnnppjfpiopgfaa.Que
