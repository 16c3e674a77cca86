/- ScopeMoreUpto: for every input that can be read and is of bulk at most 1048576 the law answers true, and leaves its arguments as they were. The listed tables hold what the card ties to the text. -/
import Derived.Test.YtbnbcimjapiicaaDoorBN5
import Derived.Test.YtbnbcimjapiicaaDoorCards
import Derived.Test.YtbnbcimjapiicaaDoorTie
import Derived.WalkKit
import Derived.ProofKit
import Derived.OpenShut
import Derived.SevenTiedAt
set_option linter.unusedVariables false
set_option linter.unusedSimpArgs false
namespace Go.Proofs.YtbnbcimjapiicaaDoor.scopeMore
open Go Go.ChangeShapes Go.WideShapes Go.ChangeAt Go.RowKit
theorem own : ownKnob Tryd.prog.godebug = none := by kernel_rfl
theorem laidOut : laidOutB Tryd.prog = true := by kernel_rfl
theorem reads (os : Os) {H : Type} (enc : TypeId × Value → H) : ∃ places, DataW.whole enc Tryd.prog ((World.laidAll Tryd.prog os Rows.scopeMoreUptoRow.laid).forCall (fun _ _ => 0) ⟨#[], #[.agg #[.slice none 0 0, .slice none 0 0], .int .i64 0, .int .i64 0, .int .i64 0], []⟩).memory Tryd.f8.params.toList Rows.scopeMoreSpec.vars false #[.agg #[.slice none 0 0, .slice none 0 0], .int .i64 0, .int .i64 0, .int .i64 0].toList 8 = some ([.agg [.nil, .nil], .lit (.int .i64 0), .lit (.int .i64 0), .lit (.int .i64 0)], [], places) :=
  ⟨[], by kernel_rfl⟩
set_option maxRecDepth 100000 in
theorem lifted (os : Os) (started : os.Started) (H : Type) (enc : TypeId × Value → H) (F : Stop.Interp) :
    ReturnsInHanded {} Tryd.checked os 8 .any ((Rows.OpenSpec.upto Rows.scopeMoreSpec).preRow enc Tryd.prog Tryd.f8 Rows.scopeMoreUptoRow.domain false Rows.scopeMoreUptoRow.laid) (((Rows.OpenSpec.upto Rows.scopeMoreSpec).at F).post enc Tryd.prog Tryd.f8 false true false false) := by
  obtain ⟨places, hx⟩ := reads os enc
  refine Go.X.law_row (C := Tryd.checked) (fn := Tryd.f8) (s := Rows.scopeMoreSpec) (cond := some Rows.uptoSmall) (tb := 4) own started (by kernel_rfl) Tryd.func8 rfl laidOut (by kernel_rfl) rfl Tryd.underlying4 ?_
    (Go.X.witness_row_shaped (enc := enc) (C := Tryd.checked) (World.laidAll Tryd.prog os Rows.scopeMoreUptoRow.laid) #[.agg #[.slice none 0 0, .slice none 0 0], .int .i64 0, .int .i64 0, .int .i64 0] (World.laidAll_os _ _ _) (World.shaped_of_ZipB (by kernel_rfl) (by kernel_rfl)) (by kernel_rfl)
      (OpenSpec.preRow_of_cond 8 hx (by kernel_rfl) (fun q hq => by cases hq; kernel_rfl) (by kernel_rfl) (by rw [MakeChecks.laidMetH_plain _ _ _ (by kernel_rfl)]; exact laidMet_laidAll _ (by kernel_rfl) (by kernel_rfl)))) ?_
  · intro ds hds
    match ds, hds with | [d0, d1, d2, d3], _ => rfl
  intro W base args ds p hval hA hsz hcond hL
  obtain ⟨v0, vs0, d0, ds0, p0, q0, hargs, rfl, rfl, h0, r0⟩ := trodAll_cons hA
  obtain ⟨v1, vs1, d1, ds1, p1, q1, hargs1, rfl, rfl, h1, r1⟩ := trodAll_cons r0
  obtain ⟨v2, vs2, d2, ds2, p2, q2, hargs2, rfl, rfl, h2, r2⟩ := trodAll_cons r1
  obtain ⟨v3, vs3, d3, ds3, p3, q3, hargs3, rfl, rfl, h3, r3⟩ := trodAll_cons r2
  obtain ⟨rfl, rfl, rfl⟩ := trodAll_nil r3
  obtain rfl : args = #[v0, v1, v2, v3] := by cases args; simp_all
  have hv := hval 0 25 v0 rfl rfl
  simp only [Value.okWide, Tryd.underlying25] at hv
  obtain ⟨cs, rfl, _, _⟩ := hv
  obtain ⟨nn, rfl⟩ := okWide_int Tryd.underlying3 (hval 1 3 v1 rfl rfl)
  obtain ⟨ll, rfl, hll⟩ := Tr.okWide_intW Tryd.underlying3 (hval 2 3 v2 rfl rfl)
  obtain ⟨cc, rfl, hcc⟩ := Tr.okWide_intW Tryd.underlying3 (hval 3 3 v3 rfl rfl)
  obtain ⟨k, hk⟩ := h0
  obtain ⟨e, ⟨hc0, hok⟩, hm⟩ := (Tr.opensPr k).go hk
  have hb := of_decide_eq_true (hcond _ rfl)
  simp only [Rows.uptoBulkAll] at hb
  have hsz' : e.decls.length + Go.X.St.szL e.body ≤ 1048576 := Nat.le_trans hm (Nat.le_trans (Nat.le_add_right _ _) hb)
  have hc : cs = e.cells.toArray := by rw [← hc0]; simp [Value.cells]
  subst hc
  exact Calls.mono (Tr.ScopeMore_ok (Tr.gl_of hL) hok hsz' nn ll cc hll hcc) fun e w' ⟨v, he, hv, hm⟩ => ⟨by rw [he, hv], hm.toBelow⟩
theorem said : Rows.ScopeMoreUptoSaid :=
  OpenClaim.holds_of_cond 8 Tryd.f8 rfl rfl rfl rfl rfl rfl rfl ⟨rfl, rfl, rfl, rfl, rfl⟩ rfl rfl rfl rfl rfl (by kernel_rfl) Tryd.func8 (by kernel_rfl)
    (of_decide_eq_true (by kernel_rfl)) (by unfold Func.isWrapper; first | (rw [if_pos (by decide +kernel)]; kernel_rfl) | (rw [if_neg (by decide +kernel)]; exact ⟨rfl, rfl⟩))
    (fun os started H enc _ F => by rw [OpenClaim.pre_eq_preRow]; exact lifted os started H enc F)
theorem plain (f : FuncId) (fn : Func) (hf : Tryd.pinned.checked.prog.funcNamed "dispatcher/dispatcherlaw04.ScopeMore" = some f) (hfn : Tryd.pinned.checked.prog.funcs[f]? = some fn) :
    false = Tryd.pinned.checked.prog.looks [] ∧ ∀ (j : Nat) t, fn.params[j]? = some t → Tryd.pinned.checked.prog.wantsStandIn t = false := by
  obtain rfl : f = 8 := Option.some.inj ((show Tryd.prog.funcNamed "dispatcher/dispatcherlaw04.ScopeMore" = some 8 by kernel_rfl).symm.trans hf) |>.symm
  obtain rfl : fn = Tryd.f8 := (Option.some.inj (Tryd.func8.symm.trans hfn)).symm
  refine ⟨by kernel_rfl, fun j t ht => ?_⟩
  have hall : (Tryd.f8.params.toList.all fun u => !Tryd.prog.wantsStandIn u) = true := by kernel_rfl
  have hm : t ∈ Tryd.f8.params.toList := by simpa using Array.mem_of_getElem? ht
  exact (show Tryd.prog.wantsStandIn t = false by simpa using List.all_eq_true.1 hall t hm)
theorem card : Rows.ScopeMoreUptoCardSaid :=
  Claim7.holds_tied_plain_at .later [] _ _ _ _ said (fun _ h => by cases h) (by kernel_rfl) (fun _ h => by cases h) scopeMoreUpto_row_tie rfl ⟨rfl, rfl⟩ (by kernel_rfl) rfl plain (by kernel_rfl)
#print axioms card
end Go.Proofs.YtbnbcimjapiicaaDoor.scopeMore
namespace Go.Proofs.YtbnbcimjapiicaaDoor
/-- The statement, under a short name, for the claim. -/
theorem scopeMore_holds : Rows.ScopeMoreUptoCardSaid := scopeMore.card
end Go.Proofs.YtbnbcimjapiicaaDoor
