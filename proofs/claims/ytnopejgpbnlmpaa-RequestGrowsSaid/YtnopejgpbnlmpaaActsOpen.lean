/- What the laws' arguments read as. -/
import Derived.Test.YtnopejgpbnlmpaaXSh
import Derived.Test.YtnopejgpbnlmpaaActs
set_option linter.unusedVariables false
namespace Go.Proofs.Ytnopejgpbnlmpaa.Req
open Go Go.X Go.RowKit

/-- An act's numbers are in their kinds' ranges. -/
def A.fine (a : A) : Prop := (Lit.int .u8 a.kind).wf = true ∧ (Lit.int .i64 a.v).wf = true ∧ (Lit.int .i64 a.p).wf = true ∧ (Lit.int .i64 a.t).wf = true ∧ a.l.length ≤ maxLen
def shInts : Sh (Value × List Int) := ⟨1, fun w x cs => cs = [x.1] ∧ reads w 1 x.1 x.2.length (ivs x.2) ∧ x.2.length ≤ maxLen⟩
def shA : Sh A := ⟨6, fun w a cs => cs = a.enc ∧ a.ok w ∧ a.fine⟩
theorem opens27 (n : Nat) : OpensAt Try.prog n shInts 27 :=
  opens_as (k := Sh.slice (Sh.int .i64)) (opens_slice Try.underlying27 (by kernel_rfl) (fun m _ => opens_int Try.underlying3)) (fun x => x) (fun w v cs h => by
    refine ⟨h.1, ?_, h.2.1⟩
    have := reads_sh h (fun i => [.int .i64 i]) (fun _ => rfl) (fun _ _ hd => hd.1)
    have e : v.2.flatMap (fun i => [Value.int .i64 i]) = ivs v.2 := by
      unfold ivs
      rw [List.flatMap_def]
      induction v.2 with
      | nil => rfl
      | cons a l ih => simp [iv, ih]
    rw [e] at this
    exact this)
theorem opens29 (n : Nat) : OpensAt Try.prog n shA 29 :=
  opens_as (opens_struct Try.underlying29 (by kernel_rfl) (fun m _ => fields_cons rfl (by kernel_rfl) (opens_int Try.underlying5) (fields_cons rfl (by kernel_rfl) (opens_bool Try.underlying4) (fields_cons rfl (by kernel_rfl) (opens27 m)
    (fields_cons rfl (by kernel_rfl) (opens_int Try.underlying2) (fields_cons rfl (by kernel_rfl) (opens_int Try.underlying3) (fields_one rfl (by kernel_rfl) (opens_int Try.underlying3))))))))
    (fun x => (⟨x.1, x.2.1, x.2.2.1.1, x.2.2.1.2, x.2.2.2.1, x.2.2.2.2.1, x.2.2.2.2.2⟩ : A))
    (fun w v cs h => by
      obtain ⟨c0, d0, rfl, _, ⟨rfl, h0⟩, c1, d1, rfl, _, rfl, c2, d2, rfl, _, ⟨rfl, h2, h2'⟩, c3, d3, rfl, _, ⟨rfl, h3⟩, c4, d4, rfl, _, ⟨rfl, h4⟩, rfl, h5⟩ := h
      exact ⟨rfl, h2, h0, h3, h4, h5, h2'⟩)
theorem opens22 (n : Nat) : OpensAt Try.prog n (Sh.slice shA) 22 := opens_slice Try.underlying22 (by kernel_rfl) (fun m _ => opens29 m)
theorem Acts_of {w : World} {x : Value × List A} {cs : List Value} (h : (Sh.slice shA).K w x cs) : Acts w x.1 x.2 ∧ (∀ a ∈ x.2, a.fine) :=
  ⟨⟨reads_sh h A.enc (fun _ => rfl) (fun _ _ hd => hd.1), fun a ha => by obtain ⟨d, hd⟩ := mem_sh h a ha; exact hd.2.1⟩, fun a ha => by obtain ⟨d, hd⟩ := mem_sh h a ha; exact hd.2.2⟩
end Go.Proofs.Ytnopejgpbnlmpaa.Req
