/-
  DERIVED. GIVEN WITH THE SEED: THE CARDS: each row of YtpkfbaagpjdifaaDoorRows.lean that lists a variable, with what it lists TIED to the program's text (the seventh form; the later family's looks); each row that meets fmt, with fmt's text TOLD by the authors' own Lean function (tested against real Go, not proved from fmt's source: count such statements apart). THE CARD IS WHAT COUNTS. Prove the row's statement (the work); the ties are given (YtpkfbaagpjdifaaDoorTie.lean); close each card by the builder's one call (the guide's Derived/Test/ToyasCard.lean, 'card_holds'). Laid BY PROGRAM, IN A SANDBOX (cutbox-door.mjs). By AI agents, Wed Nov 11 2026. No macro, syntax, notation, axiom, sorry.
-/
import Derived.Test.YtpkfbaagpjdifaaDoorRows
import GoSem.ClaimSeven
namespace Go.Proofs.YtpkfbaagpjdifaaDoor
namespace Rows

/-- THE TIED CARD OF 'dispatcherlaw30.LimitsProducts'. -/
def limitsProductsCard : Claim7 := { stood := { row := limitsProductsRow, standIns := [], harness := (true, "cc8e54346cb18095ffacd021b89fe612b7f5804e14ea3e877359e9285cd5cb27"), looks := false }, kinds := [], alts := [], laidByText := true, laidKinds := [.widerDeep, .data, .widerDeep], laidTests := true, laidLooks := .later }
def LimitsProductsCardSaid : Prop := Claim7.holds Tryd.pinned (.plain (OpenSpec.ofChange limitsProductsSpec)) limitsProductsCard

/-- THE SECOND FORM's CARD OF 'dispatcherlaw30.LimitsProducts'. -/
def limitsProductsUptoCard : Claim7 := { stood := { row := limitsProductsUptoRow, standIns := [], harness := (true, "cc8e54346cb18095ffacd021b89fe612b7f5804e14ea3e877359e9285cd5cb27"), looks := false }, kinds := [], alts := [], laidByText := true, laidKinds := [.widerDeep, .data, .widerDeep], laidTests := true, laidLooks := .later }
def LimitsProductsUptoCardSaid : Prop := Claim7.holds Tryd.pinned (.plain (OpenSpec.upto limitsProductsSpec)) limitsProductsUptoCard
end Rows
end Go.Proofs.YtpkfbaagpjdifaaDoor
