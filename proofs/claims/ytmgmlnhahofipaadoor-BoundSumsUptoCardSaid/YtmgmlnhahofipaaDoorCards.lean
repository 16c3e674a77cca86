/-
  DERIVED. GIVEN WITH THE SEED: THE CARDS: each row of YtmgmlnhahofipaaDoorRows.lean that lists a variable, with what it lists TIED to the program's text (the seventh form; the later family's looks); each row that meets fmt, with fmt's text TOLD by the authors' own Lean function (tested against real Go, not proved from fmt's source: count such statements apart). THE CARD IS WHAT COUNTS. Prove the row's statement (the work); the ties are given (YtmgmlnhahofipaaDoorTie.lean); close each card by the builder's one call (the guide's Derived/Test/ToyasCard.lean, 'card_holds'). Laid BY PROGRAM, IN A SANDBOX (cutbox-door.mjs). By AI agents, Wed Nov 11 2026. No macro, syntax, notation, axiom, sorry.
-/
import Derived.Test.YtmgmlnhahofipaaDoorRows
import GoSem.ClaimSeven
namespace Go.Proofs.YtmgmlnhahofipaaDoor
namespace Rows

/-- THE TIED CARD OF 'dispatcherlaw09.BoundExprs'. -/
def boundExprsCard : Claim7 := { stood := { row := boundExprsRow, standIns := [], harness := (true, "b2150148a54eec760c5d0aff7380e4f90fbe13be97ba5db802e4c47a4dfa6480"), looks := false }, kinds := [], alts := [], laidByText := true, laidKinds := [.widerDeep, .data, .widerDeep], laidTests := true, laidLooks := .later }
def BoundExprsCardSaid : Prop := Claim7.holds Tryd.pinned (.plain (OpenSpec.ofChange boundExprsSpec)) boundExprsCard

/-- THE TIED CARD OF 'dispatcherlaw09.BoundTells'. -/
def boundTellsCard : Claim7 := { stood := { row := boundTellsRow, standIns := [], harness := (true, "b2150148a54eec760c5d0aff7380e4f90fbe13be97ba5db802e4c47a4dfa6480"), looks := false }, kinds := [], alts := [], laidByText := true, laidKinds := [.widerDeep, .data, .widerDeep], laidTests := true, laidLooks := .later }
def BoundTellsCardSaid : Prop := Claim7.holds Tryd.pinned (.plain (OpenSpec.ofChange boundTellsSpec)) boundTellsCard

/-- THE TIED CARD OF 'dispatcherlaw09.BoundSums'. -/
def boundSumsCard : Claim7 := { stood := { row := boundSumsRow, standIns := [], harness := (true, "b2150148a54eec760c5d0aff7380e4f90fbe13be97ba5db802e4c47a4dfa6480"), looks := false }, kinds := [], alts := [], laidByText := true, laidKinds := [.widerDeep, .data, .widerDeep], laidTests := true, laidLooks := .later }
def BoundSumsCardSaid : Prop := Claim7.holds Tryd.pinned (.plain (OpenSpec.ofChange boundSumsSpec)) boundSumsCard

/-- THE TIED CARD OF 'dispatcherlaw09.BoundCounted'. -/
def boundCountedCard : Claim7 := { stood := { row := boundCountedRow, standIns := [], harness := (true, "b2150148a54eec760c5d0aff7380e4f90fbe13be97ba5db802e4c47a4dfa6480"), looks := false }, kinds := [], alts := [], laidByText := true, laidKinds := [.widerDeep, .data, .widerDeep], laidTests := true, laidLooks := .later }
def BoundCountedCardSaid : Prop := Claim7.holds Tryd.pinned (.plain (OpenSpec.ofChange boundCountedSpec)) boundCountedCard

/-- THE SECOND FORM's CARD OF 'dispatcherlaw09.BoundExprs'. -/
def boundExprsUptoCard : Claim7 := { stood := { row := boundExprsUptoRow, standIns := [], harness := (true, "b2150148a54eec760c5d0aff7380e4f90fbe13be97ba5db802e4c47a4dfa6480"), looks := false }, kinds := [], alts := [], laidByText := true, laidKinds := [.widerDeep, .data, .widerDeep], laidTests := true, laidLooks := .later }
def BoundExprsUptoCardSaid : Prop := Claim7.holds Tryd.pinned (.plain (OpenSpec.upto boundExprsSpec)) boundExprsUptoCard

/-- THE SECOND FORM's CARD OF 'dispatcherlaw09.BoundTells'. -/
def boundTellsUptoCard : Claim7 := { stood := { row := boundTellsUptoRow, standIns := [], harness := (true, "b2150148a54eec760c5d0aff7380e4f90fbe13be97ba5db802e4c47a4dfa6480"), looks := false }, kinds := [], alts := [], laidByText := true, laidKinds := [.widerDeep, .data, .widerDeep], laidTests := true, laidLooks := .later }
def BoundTellsUptoCardSaid : Prop := Claim7.holds Tryd.pinned (.plain (OpenSpec.upto boundTellsSpec)) boundTellsUptoCard

/-- THE SECOND FORM's CARD OF 'dispatcherlaw09.BoundSums'. -/
def boundSumsUptoCard : Claim7 := { stood := { row := boundSumsUptoRow, standIns := [], harness := (true, "b2150148a54eec760c5d0aff7380e4f90fbe13be97ba5db802e4c47a4dfa6480"), looks := false }, kinds := [], alts := [], laidByText := true, laidKinds := [.widerDeep, .data, .widerDeep], laidTests := true, laidLooks := .later }
def BoundSumsUptoCardSaid : Prop := Claim7.holds Tryd.pinned (.plain (OpenSpec.upto boundSumsSpec)) boundSumsUptoCard

/-- THE SECOND FORM's CARD OF 'dispatcherlaw09.BoundCounted'. -/
def boundCountedUptoCard : Claim7 := { stood := { row := boundCountedUptoRow, standIns := [], harness := (true, "b2150148a54eec760c5d0aff7380e4f90fbe13be97ba5db802e4c47a4dfa6480"), looks := false }, kinds := [], alts := [], laidByText := true, laidKinds := [.widerDeep, .data, .widerDeep], laidTests := true, laidLooks := .later }
def BoundCountedUptoCardSaid : Prop := Claim7.holds Tryd.pinned (.plain (OpenSpec.upto boundCountedSpec)) boundCountedUptoCard
end Rows
end Go.Proofs.YtmgmlnhahofipaaDoor
