/- CollValues: for every input that can be read the law answers true, and leaves its arguments as they were. The listed tables hold what the card ties to the text. -/
import Derived.Test.YtandbmnhghmcgaaDoorCV5
import Derived.Test.YtandbmnhghmcgaaDoorCards
import Derived.Test.YtandbmnhghmcgaaDoorTie
import Derived.WalkKit
import Derived.ProofKit
import Derived.OpenShut
import Derived.SevenTiedAt
set_option linter.unusedVariables false
set_option linter.unusedSimpArgs false
namespace Go.Proofs.YtandbmnhghmcgaaDoor.collValues
open Go Go.ChangeShapes Go.WideShapes Go.ChangeAt Go.RowKit
theorem own : ownKnob Tryd.prog.godebug = none := by kernel_rfl
theorem laidOut : laidOutB Tryd.prog = true := by kernel_rfl
theorem reads (os : Os) {H : Type} (enc : TypeId × Value → H) : ∃ places, DataW.whole enc Tryd.prog ((World.laidAll Tryd.prog os Rows.collValuesRow.laid).forCall (fun _ _ => 0) ⟨#[], #[.slice none 0 0, .int .u8 0, .bool false], []⟩).memory Tryd.f8.params.toList Rows.collValuesSpec.vars false #[.slice none 0 0, .int .u8 0, .bool false].toList 8 = some ([.nil, .lit (.int .u8 0), .lit (.bool false)], [], places) :=
  ⟨[], by kernel_rfl⟩
set_option maxRecDepth 100000 in
theorem lifted (os : Os) (started : os.Started) (H : Type) (enc : TypeId × Value → H) (F : Stop.Interp) :
    ReturnsInHanded {} Tryd.checked os 8 .any ((OpenSpec.ofChange Rows.collValuesSpec).preRow enc Tryd.prog Tryd.f8 Rows.collValuesRow.domain false Rows.collValuesRow.laid) (((OpenSpec.ofChange Rows.collValuesSpec).at F).post enc Tryd.prog Tryd.f8 false true false false) := by
  obtain ⟨places, hx⟩ := reads os enc
  refine Go.X.law_row (C := Tryd.checked) (fn := Tryd.f8) (s := Rows.collValuesSpec) (cond := none) (tb := 4) own started (by kernel_rfl) Tryd.func8 rfl laidOut (by kernel_rfl) rfl Tryd.underlying4 ?_
    (Go.X.witness_row_shaped (enc := enc) (C := Tryd.checked) (World.laidAll Tryd.prog os Rows.collValuesRow.laid) #[.slice none 0 0, .int .u8 0, .bool false] (World.laidAll_os _ _ _) (World.shaped_of_ZipB (by kernel_rfl) (by kernel_rfl)) (by kernel_rfl)
      (OpenSpec.preRow_of_cond 8 hx (by kernel_rfl) (fun q hq => by cases hq) (by kernel_rfl) (by rw [MakeChecks.laidMetH_plain _ _ _ (by kernel_rfl)]; exact laidMet_laidAll _ (by kernel_rfl) (by kernel_rfl)))) ?_
  · intro ds hds
    match ds, hds with | [d0, d1, d2], _ => rfl
  intro W base args ds p hval hA hsz hcond hL
  obtain ⟨v0, vs0, d0, ds0, p0, q0, hargs, rfl, rfl, h0, r0⟩ := trodAll_cons hA
  obtain ⟨v1, vs1, d1, ds1, p1, q1, hargs1, rfl, rfl, h1, r1⟩ := trodAll_cons r0
  obtain ⟨v2, vs2, d2, ds2, p2, q2, hargs2, rfl, rfl, h2, r2⟩ := trodAll_cons r1
  obtain ⟨rfl, rfl, rfl⟩ := trodAll_nil r2
  obtain rfl : args = #[v0, v1, v2] := by cases args; simp_all
  have hv0 := hval 0 55 v0 rfl rfl
  obtain ⟨n1, rfl, hn1⟩ := Col.u8_arg (hval 1 5 v1 rfl rfl)
  obtain ⟨lo, rfl⟩ := Col.bool_of (hval 2 4 v2 rfl rfl)
  obtain ⟨k, hk⟩ := h0
  obtain ⟨x, hK⟩ := (Col.opensLs k).go hk
  have e0 : v0 = x.1 := Go.X.slice_arg Col.vLs hv0 hK
  subst e0
  exact Calls.mono (Col.CollValues_ok (Col.gl_of hL) (Col.Ls_of hK).1 (Col.Ls_of hK).2 hn1.1 hn1.2 lo) fun e w' ⟨v, he, hv, hm⟩ => ⟨by rw [he, hv], hm.toBelow⟩
theorem said : Rows.CollValuesSaid :=
  OpenClaim.holds_of_cond 8 Tryd.f8 rfl rfl rfl rfl rfl rfl rfl ⟨rfl, rfl, rfl, rfl, rfl⟩ rfl rfl rfl rfl rfl (by kernel_rfl) Tryd.func8 (by kernel_rfl)
    (of_decide_eq_true (by kernel_rfl)) (by unfold Func.isWrapper; first | (rw [if_pos (by decide +kernel)]; kernel_rfl) | (rw [if_neg (by decide +kernel)]; exact ⟨rfl, rfl⟩))
    (fun os started H enc _ F => by rw [OpenClaim.pre_eq_preRow]; exact lifted os started H enc F)
theorem plain (f : FuncId) (fn : Func) (hf : Tryd.pinned.checked.prog.funcNamed "dispatcher/dispatcherlaw15.CollValues" = some f) (hfn : Tryd.pinned.checked.prog.funcs[f]? = some fn) :
    false = Tryd.pinned.checked.prog.looks [] ∧ ∀ (j : Nat) t, fn.params[j]? = some t → Tryd.pinned.checked.prog.wantsStandIn t = false := by
  obtain rfl : f = 8 := Option.some.inj ((show Tryd.prog.funcNamed "dispatcher/dispatcherlaw15.CollValues" = some 8 by kernel_rfl).symm.trans hf) |>.symm
  obtain rfl : fn = Tryd.f8 := (Option.some.inj (Tryd.func8.symm.trans hfn)).symm
  refine ⟨by kernel_rfl, fun j t ht => ?_⟩
  have hall : (Tryd.f8.params.toList.all fun u => !Tryd.prog.wantsStandIn u) = true := by kernel_rfl
  have hm : t ∈ Tryd.f8.params.toList := by simpa using Array.mem_of_getElem? ht
  exact (show Tryd.prog.wantsStandIn t = false by simpa using List.all_eq_true.1 hall t hm)
theorem card : Rows.CollValuesCardSaid :=
  Claim7.holds_tied_plain_at .later [] _ _ _ _ said (fun _ h => by cases h) (by kernel_rfl) (fun _ h => by cases h) collValues_row_tie rfl ⟨rfl, rfl⟩ (by kernel_rfl) rfl plain (by kernel_rfl)
#print axioms card
end Go.Proofs.YtandbmnhghmcgaaDoor.collValues
namespace Go.Proofs.YtandbmnhghmcgaaDoor
/-- The statement, under a short name, for the claim. -/
theorem collValues_holds : Rows.CollValuesCardSaid := collValues.card
end Go.Proofs.YtandbmnhghmcgaaDoor
