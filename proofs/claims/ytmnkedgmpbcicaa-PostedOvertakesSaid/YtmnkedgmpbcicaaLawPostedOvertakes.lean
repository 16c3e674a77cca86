/- PostedOvertakes: for every input the law answers true: of messages of one channel that all fit all receives, the k-th that was sent is that of the k-th that was posted. No condition. -/
import Derived.Test.YtmnkedgmpbcicaaUV3
import Derived.Test.YtmnkedgmpbcicaaRows
import Derived.WalkKit
import Derived.ProofKit
import Derived.OpenShut
import Derived.ShutString
import Derived.ChangeOld
import Derived.Below
import Derived.SizedLaws
set_option linter.unusedVariables false
namespace Go.Proofs.Ytmnkedgmpbcicaa.postedOvertakes
open Go Go.ChangeShapes Go.WideShapes Go.ChangeAt Go.RowKit
theorem own : ownKnob Try.prog.godebug = none := by kernel_rfl
theorem laidOut : laidOutB Try.prog = true := by kernel_rfl
theorem opensT (n : Nat) : Go.X.OpensAt Try.prog n (Go.X.Sh.slice (Go.X.Sh.int .u8)) Que.tU8s := Go.X.opens_slice Que.vU8s (by kernel_rfl) (fun m _ => Go.X.opens_int Que.vU8)
theorem flat_u8 : ∀ l : List Int, (l.flatMap fun g => [Value.int .u8 g]) = Que.u8s l
  | [] => rfl
  | g :: l => by rw [List.flatMap_cons, flat_u8 l]; rfl
theorem tags_of {w : World} {x : Value × List Int} {cs : List Value} (h : (Go.X.Sh.slice (Go.X.Sh.int .u8)).K w x cs) : Que.Tags w x.1 x.2 ∧ ∀ g ∈ x.2, 0 ≤ g := by
  refine ⟨?_, fun g hg => ?_⟩
  · have := Go.X.reads_sh h (fun g => [Value.int .u8 g]) (fun _ => rfl) (fun _ _ hd => hd.1)
    rw [flat_u8] at this
    exact this
  · obtain ⟨_, _, A, c, _, _, hr⟩ := h
    obtain ⟨i, hi⟩ := List.getElem?_of_mem hg
    obtain ⟨a, d, _, _, hd, _⟩ := hr i g hi
    have := hd.2
    simp [Lit.wf, IntKind.min, IntKind.signed] at this
    exact this.1
set_option maxRecDepth 100000 in
theorem lifted (os : Os) (started : os.Started) (H : Type) (enc : TypeId × Value → H) :
    ReturnsInHanded {} Try.checked os 6 .any (Rows.postedOvertakesSpec.pre6 enc Try.prog Try.f6 Rows.postedOvertakesRow.domain false) (Rows.postedOvertakesSpec.post enc Try.prog Try.f6 false true false false) := by
  refine Go.X.law_lifted (C := Try.checked) (fn := Try.f6) (tb := 4) own started (by kernel_rfl) Try.func6 rfl laidOut (by kernel_rfl) rfl Try.underlying4 ?_
    (ChangeSpec.witness6 (enc := enc) (C := Try.checked) false ⟨#[], #[.slice none 0 0], []⟩ 8 (by kernel_rfl) (by kernel_rfl) (by kernel_rfl) (by kernel_rfl)) ?_
  · intro ds hds
    match ds, hds with | [d1], _ => rfl
  intro W base args ds p hval hA hsz
  obtain ⟨v0, vs0, d0, ds0, p0, q0, hargs, rfl, rfl, h0, r0⟩ := trodAll_cons hA
  obtain ⟨rfl, rfl, rfl⟩ := trodAll_nil r0
  obtain rfl : args = #[v0] := by cases args; simp_all
  have hv0 := hval 0 52 v0 rfl rfl
  obtain ⟨m0, hm0⟩ := h0
  obtain ⟨x, hK⟩ := (opensT m0).go hm0
  have e0 : v0 = x.1 := Go.X.slice_arg Que.vU8s hv0 hK
  subst e0
  have hq := Que.PostedOvertakes_ok (tags_of hK).1 (tags_of hK).2
  exact Calls.mono hq fun e w' ⟨v, he, hv, hm⟩ => ⟨by rw [he, hv], hm.toBelow⟩
theorem over : Rows.postedOvertakesRow.holds Try.pinned (OpenSpec.ofChange Rows.postedOvertakesSpec) :=
  OpenClaim.holds_of_wide 6 Try.f6 rfl rfl rfl rfl rfl rfl rfl ⟨rfl, rfl, rfl, rfl, rfl⟩ rfl rfl rfl rfl rfl (by kernel_rfl) Try.func6 (by kernel_rfl)
    (of_decide_eq_true (by kernel_rfl)) (by unfold Func.isWrapper; first | (rw [if_pos (by decide +kernel)]; kernel_rfl) | (rw [if_neg (by decide +kernel)]; exact ⟨rfl, rfl⟩))
    (fun os started H enc _ => lifted os started H enc)
theorem proved : Rows.PostedOvertakesSaid := over
#print axioms proved
end Go.Proofs.Ytmnkedgmpbcicaa.postedOvertakes
namespace Go.Proofs.Ytmnkedgmpbcicaa
/-- The row, under a short name, for the claim. -/
theorem postedOvertakes_holds : Rows.PostedOvertakesSaid := postedOvertakes.proved
end Go.Proofs.Ytmnkedgmpbcicaa
