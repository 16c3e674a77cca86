/- LimitsOneUpto: for every input that can be read and is of bulk at most 1048576 the law answers true, and leaves its arguments as they were. The listed tables hold what the card ties to the text. -/
import Derived.Test.YtpkfbaagpjdifaaGreatDoorLW6
import Derived.Test.YtpkfbaagpjdifaaGreatDoorCards
import Derived.Test.YtpkfbaagpjdifaaGreatDoorTie
import Derived.WalkKit
import Derived.ProofKit
import Derived.OpenShut
import Derived.SevenTiedAt
set_option linter.unusedVariables false
set_option linter.unusedSimpArgs false
namespace Go.Proofs.YtpkfbaagpjdifaaGreatDoor.limitsOne
open Go Go.ChangeShapes Go.WideShapes Go.ChangeAt Go.RowKit
theorem own : ownKnob Tryz.prog.godebug = none := by kernel_rfl
theorem laidOut : laidOutB Tryz.prog = true := by kernel_rfl
theorem reads (os : Os) {H : Type} (enc : TypeId × Value → H) : ∃ places, DataW.whole enc Tryz.prog ((World.laidAll Tryz.prog os Rows.limitsOneUptoRow.laid).forCall (fun _ _ => 0) ⟨#[], #[.agg #[.slice none 0 0, .slice none 0 0], .agg #[.int .i64 0, .int .i64 0, .bool false, .int .i64 0, .int .i64 0, .int .i64 0]], []⟩).memory Tryz.f5.params.toList Rows.limitsOneSpec.vars false #[.agg #[.slice none 0 0, .slice none 0 0], .agg #[.int .i64 0, .int .i64 0, .bool false, .int .i64 0, .int .i64 0, .int .i64 0]].toList 8 = some ([.agg [.nil, .nil], .agg [.lit (.int .i64 0), .lit (.int .i64 0), .lit (.bool false), .lit (.int .i64 0), .lit (.int .i64 0), .lit (.int .i64 0)]], [], places) :=
  ⟨[], by kernel_rfl⟩
set_option maxRecDepth 100000 in
theorem lifted (os : Os) (started : os.Started) (H : Type) (enc : TypeId × Value → H) (F : Stop.Interp) :
    ReturnsInHanded {} Tryz.checked os 5 .any ((Rows.OpenSpec.upto Rows.limitsOneSpec).preRow enc Tryz.prog Tryz.f5 Rows.limitsOneUptoRow.domain false Rows.limitsOneUptoRow.laid) (((Rows.OpenSpec.upto Rows.limitsOneSpec).at F).post enc Tryz.prog Tryz.f5 false true false false) := by
  obtain ⟨places, hx⟩ := reads os enc
  refine Go.X.law_row (C := Tryz.checked) (fn := Tryz.f5) (s := Rows.limitsOneSpec) (cond := some Rows.uptoSmall) (tb := 4) own started (by kernel_rfl) Tryz.func5 rfl laidOut (by kernel_rfl) rfl Tryz.underlying4 ?_
    (Go.X.witness_row_shaped (enc := enc) (C := Tryz.checked) (World.laidAll Tryz.prog os Rows.limitsOneUptoRow.laid) #[.agg #[.slice none 0 0, .slice none 0 0], .agg #[.int .i64 0, .int .i64 0, .bool false, .int .i64 0, .int .i64 0, .int .i64 0]] (World.laidAll_os _ _ _) (World.shaped_of_ZipB (by kernel_rfl) (by kernel_rfl)) (by kernel_rfl)
      (OpenSpec.preRow_of_cond 8 hx (by kernel_rfl) (fun q hq => by cases hq; kernel_rfl) (by kernel_rfl) (by rw [MakeChecks.laidMetH_plain _ _ _ (by kernel_rfl)]; exact laidMet_laidAll _ (by kernel_rfl) (by kernel_rfl)))) ?_
  · intro ds hds
    match ds, hds with | [d0, d1], _ => rfl
  intro W base args ds p hval hA hsz hcond hL
  obtain ⟨v0, vs0, d0, ds0, p0, q0, hargs, rfl, rfl, h0, r0⟩ := trodAll_cons hA
  obtain ⟨v1, vs1, d1, ds1, p1, q1, hargs1, rfl, rfl, h1, r1⟩ := trodAll_cons r0
  obtain ⟨rfl, rfl, rfl⟩ := trodAll_nil r1
  obtain rfl : args = #[v0, v1] := by cases args; simp_all
  have hv := hval 0 25 v0 rfl rfl
  simp only [Value.okWide, Tryz.underlying25] at hv
  obtain ⟨cs, rfl, _, _⟩ := hv
  have hv1 := hval 1 34 v1 rfl rfl
  simp only [Value.okWide, Tryz.underlying34] at hv1
  obtain ⟨cs1, rfl, _, _⟩ := hv1
  obtain ⟨k, hk⟩ := h0
  obtain ⟨k1, hk1⟩ := h1
  obtain ⟨e, ⟨hc0, hok⟩, hm⟩ := (Tr.opensPr k).go hk
  obtain ⟨c, hc1, _⟩ := (Tr.opensCf k1).go hk1
  have hb := of_decide_eq_true (hcond _ rfl)
  simp only [Rows.uptoBulkAll] at hb
  have hsz' : e.decls.length + Go.X.St.szL e.body ≤ 1048576 := Nat.le_trans hm (Nat.le_trans (Nat.le_add_right _ _) hb)
  have hf : e.fits := ⟨by omega, by omega⟩
  have hc : cs = e.cells.toArray := by rw [← hc0]; simp [Value.cells]
  subst hc
  have hcc : (Value.agg cs1).cells.toList = c.cells := hc1
  have hc2 : cs1 = c.cells.toArray := by rw [← hcc]; simp [Value.cells]
  subst hc2
  exact Calls.mono (Tr.LimitsOne_ok (Tr.gl_of hL) hok hf c) fun e w' ⟨v, he, hv, hm⟩ => ⟨by rw [he, hv], hm.toBelow⟩
theorem said : Rows.LimitsOneUptoSaid :=
  OpenClaim.holds_of_cond 5 Tryz.f5 rfl rfl rfl rfl rfl rfl rfl ⟨rfl, rfl, rfl, rfl, rfl⟩ rfl rfl rfl rfl rfl (by kernel_rfl) Tryz.func5 (by kernel_rfl)
    (of_decide_eq_true (by kernel_rfl)) (by unfold Func.isWrapper; first | (rw [if_pos (by decide +kernel)]; kernel_rfl) | (rw [if_neg (by decide +kernel)]; exact ⟨rfl, rfl⟩))
    (fun os started H enc _ F => by rw [OpenClaim.pre_eq_preRow]; exact lifted os started H enc F)
theorem plain (f : FuncId) (fn : Func) (hf : Tryz.pinned.checked.prog.funcNamed "dispatcher/dispatcherlaw30.LimitsOne" = some f) (hfn : Tryz.pinned.checked.prog.funcs[f]? = some fn) :
    false = Tryz.pinned.checked.prog.looks [] ∧ ∀ (j : Nat) t, fn.params[j]? = some t → Tryz.pinned.checked.prog.wantsStandIn t = false := by
  obtain rfl : f = 5 := Option.some.inj ((show Tryz.prog.funcNamed "dispatcher/dispatcherlaw30.LimitsOne" = some 5 by kernel_rfl).symm.trans hf) |>.symm
  obtain rfl : fn = Tryz.f5 := (Option.some.inj (Tryz.func5.symm.trans hfn)).symm
  refine ⟨by kernel_rfl, fun j t ht => ?_⟩
  have hall : (Tryz.f5.params.toList.all fun u => !Tryz.prog.wantsStandIn u) = true := by kernel_rfl
  have hm : t ∈ Tryz.f5.params.toList := by simpa using Array.mem_of_getElem? ht
  exact (show Tryz.prog.wantsStandIn t = false by simpa using List.all_eq_true.1 hall t hm)
theorem card : Rows.LimitsOneUptoCardSaid :=
  Claim7.holds_tied_plain_at .later [] _ _ _ _ said (fun _ h => by cases h) (by kernel_rfl) (fun _ h => by cases h) limitsOneUpto_row_tie rfl ⟨rfl, rfl⟩ (by kernel_rfl) rfl plain (by kernel_rfl)
#print axioms card
end Go.Proofs.YtpkfbaagpjdifaaGreatDoor.limitsOne
namespace Go.Proofs.YtpkfbaagpjdifaaGreatDoor
/-- The statement, under a short name, for the claim. -/
theorem limitsOne_holds : Rows.LimitsOneUptoCardSaid := limitsOne.card
end Go.Proofs.YtpkfbaagpjdifaaGreatDoor
