/- LimitsProductsUpto: for every input that can be read and is of bulk at most 1048576 the law answers true, and leaves its arguments as they were. The listed tables hold what the card ties to the text. -/
import Derived.Test.YtpkfbaagpjdifaaDoorLV6
import Derived.Test.YtpkfbaagpjdifaaDoorCards
import Derived.Test.YtpkfbaagpjdifaaDoorTie
import Derived.WalkKit
import Derived.ProofKit
import Derived.OpenShut
import Derived.SevenTiedAt
set_option linter.unusedVariables false
set_option linter.unusedSimpArgs false
namespace Go.Proofs.YtpkfbaagpjdifaaDoor.limitsProducts
open Go Go.ChangeShapes Go.WideShapes Go.ChangeAt Go.RowKit
theorem own : ownKnob Tryd.prog.godebug = none := by kernel_rfl
theorem laidOut : laidOutB Tryd.prog = true := by kernel_rfl
theorem reads (os : Os) {H : Type} (enc : TypeId × Value → H) : ∃ places, DataW.whole enc Tryd.prog ((World.laidAll Tryd.prog os Rows.limitsProductsUptoRow.laid).forCall (fun _ _ => 0) ⟨#[], #[.agg #[.int .u8 0, .int .u8 0, .int .u8 0, .string ByteArray.empty, .int .i64 0, .slice none 0 0, .slice none 0 0, .slice none 0 0, .int .i64 0, .int .i64 0], .agg #[.int .u8 0, .int .u8 0, .int .u8 0, .string ByteArray.empty, .int .i64 0, .slice none 0 0, .slice none 0 0, .slice none 0 0, .int .i64 0, .int .i64 0], .int .i64 0], []⟩).memory Tryd.f3.params.toList Rows.limitsProductsSpec.vars false #[.agg #[.int .u8 0, .int .u8 0, .int .u8 0, .string ByteArray.empty, .int .i64 0, .slice none 0 0, .slice none 0 0, .slice none 0 0, .int .i64 0, .int .i64 0], .agg #[.int .u8 0, .int .u8 0, .int .u8 0, .string ByteArray.empty, .int .i64 0, .slice none 0 0, .slice none 0 0, .slice none 0 0, .int .i64 0, .int .i64 0], .int .i64 0].toList 8 = some ([.agg [.lit (.int .u8 0), .lit (.int .u8 0), .lit (.int .u8 0), .lit (.string []), .lit (.int .i64 0), .nil, .nil, .nil, .lit (.int .i64 0), .lit (.int .i64 0)], .agg [.lit (.int .u8 0), .lit (.int .u8 0), .lit (.int .u8 0), .lit (.string []), .lit (.int .i64 0), .nil, .nil, .nil, .lit (.int .i64 0), .lit (.int .i64 0)], .lit (.int .i64 0)], [], places) :=
  ⟨[], by kernel_rfl⟩
set_option maxRecDepth 100000 in
theorem lifted (os : Os) (started : os.Started) (H : Type) (enc : TypeId × Value → H) (F : Stop.Interp) :
    ReturnsInHanded {} Tryd.checked os 3 .any ((Rows.OpenSpec.upto Rows.limitsProductsSpec).preRow enc Tryd.prog Tryd.f3 Rows.limitsProductsUptoRow.domain false Rows.limitsProductsUptoRow.laid) (((Rows.OpenSpec.upto Rows.limitsProductsSpec).at F).post enc Tryd.prog Tryd.f3 false true false false) := by
  obtain ⟨places, hx⟩ := reads os enc
  refine Go.X.law_row (C := Tryd.checked) (fn := Tryd.f3) (s := Rows.limitsProductsSpec) (cond := some Rows.uptoSmall) (tb := 4) own started (by kernel_rfl) Tryd.func3 rfl laidOut (by kernel_rfl) rfl Tryd.underlying4 ?_
    (Go.X.witness_row_shaped (enc := enc) (C := Tryd.checked) (World.laidAll Tryd.prog os Rows.limitsProductsUptoRow.laid) #[.agg #[.int .u8 0, .int .u8 0, .int .u8 0, .string ByteArray.empty, .int .i64 0, .slice none 0 0, .slice none 0 0, .slice none 0 0, .int .i64 0, .int .i64 0], .agg #[.int .u8 0, .int .u8 0, .int .u8 0, .string ByteArray.empty, .int .i64 0, .slice none 0 0, .slice none 0 0, .slice none 0 0, .int .i64 0, .int .i64 0], .int .i64 0] (World.laidAll_os _ _ _) (World.shaped_of_ZipB (by kernel_rfl) (by kernel_rfl)) (by kernel_rfl)
      (OpenSpec.preRow_of_cond 8 hx (by kernel_rfl) (fun q hq => by cases hq; kernel_rfl) (by kernel_rfl) (by rw [MakeChecks.laidMetH_plain _ _ _ (by kernel_rfl)]; exact laidMet_laidAll _ (by kernel_rfl) (by kernel_rfl)))) ?_
  · intro ds hds
    match ds, hds with | [d0, d1, d2], _ => rfl
  intro W base args ds p hval hA hsz hcond hL
  obtain ⟨v0, vs0, d0, ds0, p0, q0, hargs, rfl, rfl, h0, r0⟩ := trodAll_cons hA
  obtain ⟨v1, vs1, d1, ds1, p1, q1, hargs1, rfl, rfl, h1, r1⟩ := trodAll_cons r0
  obtain ⟨v2, vs2, d2, ds2, p2, q2, hargs2, rfl, rfl, h2, r2⟩ := trodAll_cons r1
  obtain ⟨rfl, rfl, rfl⟩ := trodAll_nil r2
  obtain rfl : args = #[v0, v1, v2] := by cases args; simp_all
  have hv := hval 0 25 v0 rfl rfl
  simp only [Value.okWide, Tryd.underlying25] at hv
  obtain ⟨cs, rfl, _, _⟩ := hv
  have hv1 := hval 1 25 v1 rfl rfl
  simp only [Value.okWide, Tryd.underlying25] at hv1
  obtain ⟨cs1, rfl, _, _⟩ := hv1
  obtain ⟨nn, rfl⟩ := okWide_int Tryd.underlying3 (hval 2 3 v2 rfl rfl)
  obtain ⟨k, hk⟩ := h0
  obtain ⟨k1, hk1⟩ := h1
  obtain ⟨e, ⟨hc0, hok⟩, hm⟩ := (Tr.opensSt k).go hk
  obtain ⟨e1, ⟨hc1, hok1⟩, hm1⟩ := (Tr.opensSt k1).go hk1
  have hb := of_decide_eq_true (hcond _ rfl)
  simp only [Rows.uptoBulkAll] at hb
  have hma : e.sz ≤ Rows.uptoBulk d0 := hm
  have hmb : e1.sz ≤ Rows.uptoBulk d1 := hm1
  have hsz' : e.sz + e1.sz ≤ 1048576 := by omega
  have hc : cs = e.cells.toArray := by rw [← hc0]; simp [Value.cells]
  subst hc
  have hc' : cs1 = e1.cells.toArray := by rw [← hc1]; simp [Value.cells]
  subst hc'
  exact Calls.mono (Tr.LimitsProducts_ok (Tr.gl_of hL) hok hok1 hsz' nn) fun e w' ⟨v, he, hv, hm⟩ => ⟨by rw [he, hv], hm.toBelow⟩
theorem said : Rows.LimitsProductsUptoSaid :=
  OpenClaim.holds_of_cond 3 Tryd.f3 rfl rfl rfl rfl rfl rfl rfl ⟨rfl, rfl, rfl, rfl, rfl⟩ rfl rfl rfl rfl rfl (by kernel_rfl) Tryd.func3 (by kernel_rfl)
    (of_decide_eq_true (by kernel_rfl)) (by unfold Func.isWrapper; first | (rw [if_pos (by decide +kernel)]; kernel_rfl) | (rw [if_neg (by decide +kernel)]; exact ⟨rfl, rfl⟩))
    (fun os started H enc _ F => by rw [OpenClaim.pre_eq_preRow]; exact lifted os started H enc F)
theorem plain (f : FuncId) (fn : Func) (hf : Tryd.pinned.checked.prog.funcNamed "dispatcher/dispatcherlaw30.LimitsProducts" = some f) (hfn : Tryd.pinned.checked.prog.funcs[f]? = some fn) :
    false = Tryd.pinned.checked.prog.looks [] ∧ ∀ (j : Nat) t, fn.params[j]? = some t → Tryd.pinned.checked.prog.wantsStandIn t = false := by
  obtain rfl : f = 3 := Option.some.inj ((show Tryd.prog.funcNamed "dispatcher/dispatcherlaw30.LimitsProducts" = some 3 by kernel_rfl).symm.trans hf) |>.symm
  obtain rfl : fn = Tryd.f3 := (Option.some.inj (Tryd.func3.symm.trans hfn)).symm
  refine ⟨by kernel_rfl, fun j t ht => ?_⟩
  have hall : (Tryd.f3.params.toList.all fun u => !Tryd.prog.wantsStandIn u) = true := by kernel_rfl
  have hm : t ∈ Tryd.f3.params.toList := by simpa using Array.mem_of_getElem? ht
  exact (show Tryd.prog.wantsStandIn t = false by simpa using List.all_eq_true.1 hall t hm)
theorem card : Rows.LimitsProductsUptoCardSaid :=
  Claim7.holds_tied_plain_at .later [] _ _ _ _ said (fun _ h => by cases h) (by kernel_rfl) (fun _ h => by cases h) limitsProductsUpto_row_tie rfl ⟨rfl, rfl⟩ (by kernel_rfl) rfl plain (by kernel_rfl)
#print axioms card
end Go.Proofs.YtpkfbaagpjdifaaDoor.limitsProducts
namespace Go.Proofs.YtpkfbaagpjdifaaDoor
/-- The statement, under a short name, for the claim. -/
theorem limitsProducts_holds : Rows.LimitsProductsUptoCardSaid := limitsProducts.card
end Go.Proofs.YtpkfbaagpjdifaaDoor
