/- CollPlays: for every input that can be read the law answers true, and leaves its arguments as they were. The listed tables hold what the card ties to the text. -/
import Derived.Test.YtandbmnhghmcgaaDoorCP4
import Derived.Test.YtandbmnhghmcgaaDoorCards
import Derived.Test.YtandbmnhghmcgaaDoorTie
import Derived.WalkKit
import Derived.ProofKit
import Derived.OpenShut
import Derived.SevenTiedAt
set_option linter.unusedVariables false
set_option linter.unusedSimpArgs false
namespace Go.Proofs.YtandbmnhghmcgaaDoor.collPlays
open Go Go.ChangeShapes Go.WideShapes Go.ChangeAt Go.RowKit
theorem own : ownKnob Tryd.prog.godebug = none := by kernel_rfl
theorem laidOut : laidOutB Tryd.prog = true := by kernel_rfl
theorem reads (os : Os) {H : Type} (enc : TypeId × Value → H) : ∃ places, DataW.whole enc Tryd.prog ((World.laidAll Tryd.prog os Rows.collPlaysRow.laid).forCall (fun _ _ => 0) ⟨#[], #[.bool false, .slice none 0 0], []⟩).memory Tryd.f4.params.toList Rows.collPlaysSpec.vars false #[.bool false, .slice none 0 0].toList 8 = some ([.lit (.bool false), .nil], [], places) :=
  ⟨[], by kernel_rfl⟩
set_option maxRecDepth 100000 in
theorem lifted (os : Os) (started : os.Started) (H : Type) (enc : TypeId × Value → H) (F : Stop.Interp) :
    ReturnsInHanded {} Tryd.checked os 4 .any ((OpenSpec.ofChange Rows.collPlaysSpec).preRow enc Tryd.prog Tryd.f4 Rows.collPlaysRow.domain false Rows.collPlaysRow.laid) (((OpenSpec.ofChange Rows.collPlaysSpec).at F).post enc Tryd.prog Tryd.f4 false true false false) := by
  obtain ⟨places, hx⟩ := reads os enc
  refine Go.X.law_row (C := Tryd.checked) (fn := Tryd.f4) (s := Rows.collPlaysSpec) (cond := none) (tb := 4) own started (by kernel_rfl) Tryd.func4 rfl laidOut (by kernel_rfl) rfl Tryd.underlying4 ?_
    (Go.X.witness_row_shaped (enc := enc) (C := Tryd.checked) (World.laidAll Tryd.prog os Rows.collPlaysRow.laid) #[.bool false, .slice none 0 0] (World.laidAll_os _ _ _) (World.shaped_of_ZipB (by kernel_rfl) (by kernel_rfl)) (by kernel_rfl)
      (OpenSpec.preRow_of_cond 8 hx (by kernel_rfl) (fun q hq => by cases hq) (by kernel_rfl) (by rw [MakeChecks.laidMetH_plain _ _ _ (by kernel_rfl)]; exact laidMet_laidAll _ (by kernel_rfl) (by kernel_rfl)))) ?_
  · intro ds hds
    match ds, hds with | [d0, d1], _ => rfl
  intro W base args ds p hval hA hsz hcond hL
  obtain ⟨v0, vs0, d0, ds0, p0, q0, hargs, rfl, rfl, h0, r0⟩ := trodAll_cons hA
  obtain ⟨v1, vs1, d1, ds1, p1, q1, hargs1, rfl, rfl, h1, r1⟩ := trodAll_cons r0
  obtain ⟨rfl, rfl, rfl⟩ := trodAll_nil r1
  obtain rfl : args = #[v0, v1] := by cases args; simp_all
  obtain ⟨lo, rfl⟩ := Col.bool_of (hval 0 4 v0 rfl rfl)
  have hv1 := hval 1 22 v1 rfl rfl
  obtain ⟨k, hk⟩ := h1
  obtain ⟨x, hK⟩ := (Col.opensAcs k).go hk
  have e0 : v1 = x.1 := Go.X.slice_arg Col.vAcs hv1 hK
  subst e0
  exact Calls.mono (Col.CollPlays_ok (Col.gl_of hL) (Col.Acts_of hK).1 (Col.Acts_of hK).2 lo) fun e w' ⟨v, he, hv, hm⟩ => ⟨by rw [he, hv], hm.toBelow⟩
theorem said : Rows.CollPlaysSaid :=
  OpenClaim.holds_of_cond 4 Tryd.f4 rfl rfl rfl rfl rfl rfl rfl ⟨rfl, rfl, rfl, rfl, rfl⟩ rfl rfl rfl rfl rfl (by kernel_rfl) Tryd.func4 (by kernel_rfl)
    (of_decide_eq_true (by kernel_rfl)) (by unfold Func.isWrapper; first | (rw [if_pos (by decide +kernel)]; kernel_rfl) | (rw [if_neg (by decide +kernel)]; exact ⟨rfl, rfl⟩))
    (fun os started H enc _ F => by rw [OpenClaim.pre_eq_preRow]; exact lifted os started H enc F)
theorem plain (f : FuncId) (fn : Func) (hf : Tryd.pinned.checked.prog.funcNamed "dispatcher/dispatcherlaw15.CollPlays" = some f) (hfn : Tryd.pinned.checked.prog.funcs[f]? = some fn) :
    false = Tryd.pinned.checked.prog.looks [] ∧ ∀ (j : Nat) t, fn.params[j]? = some t → Tryd.pinned.checked.prog.wantsStandIn t = false := by
  obtain rfl : f = 4 := Option.some.inj ((show Tryd.prog.funcNamed "dispatcher/dispatcherlaw15.CollPlays" = some 4 by kernel_rfl).symm.trans hf) |>.symm
  obtain rfl : fn = Tryd.f4 := (Option.some.inj (Tryd.func4.symm.trans hfn)).symm
  refine ⟨by kernel_rfl, fun j t ht => ?_⟩
  have hall : (Tryd.f4.params.toList.all fun u => !Tryd.prog.wantsStandIn u) = true := by kernel_rfl
  have hm : t ∈ Tryd.f4.params.toList := by simpa using Array.mem_of_getElem? ht
  exact (show Tryd.prog.wantsStandIn t = false by simpa using List.all_eq_true.1 hall t hm)
theorem card : Rows.CollPlaysCardSaid :=
  Claim7.holds_tied_plain_at .later [] _ _ _ _ said (fun _ h => by cases h) (by kernel_rfl) (fun _ h => by cases h) collPlays_row_tie rfl ⟨rfl, rfl⟩ (by kernel_rfl) rfl plain (by kernel_rfl)
#print axioms card
end Go.Proofs.YtandbmnhghmcgaaDoor.collPlays
namespace Go.Proofs.YtandbmnhghmcgaaDoor
/-- The statement, under a short name, for the claim. -/
theorem collPlays_holds : Rows.CollPlaysCardSaid := collPlays.card
end Go.Proofs.YtandbmnhghmcgaaDoor
