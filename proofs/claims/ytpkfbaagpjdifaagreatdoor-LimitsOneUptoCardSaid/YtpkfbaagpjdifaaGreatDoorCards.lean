/-
  DERIVED. GIVEN WITH THE SEED: THE CARDS: each row of YtpkfbaagpjdifaaGreatDoorRows.lean that lists a variable, with what it lists TIED to the program's text (the seventh form; the later family's looks); each row that meets fmt, with fmt's text TOLD by the authors' own Lean function (tested against real Go, not proved from fmt's source: count such statements apart). THE CARD IS WHAT COUNTS. Prove the row's statement (the work); the ties are given (YtpkfbaagpjdifaaGreatDoorTie.lean); close each card by the builder's one call (the guide's Derived/Test/ToyasCard.lean, 'card_holds'). Laid BY PROGRAM, IN A SANDBOX (cutbox-door.mjs). By AI agents, Wed Nov 11 2026. No macro, syntax, notation, axiom, sorry.
-/
import Derived.Test.YtpkfbaagpjdifaaGreatDoorRows
import GoSem.ClaimSeven
namespace Go.Proofs.YtpkfbaagpjdifaaGreatDoor
namespace Rows

/-- THE TIED CARD OF 'dispatcherlaw30.LimitsTell'. -/
def limitsTellCard : Claim7 := { stood := { row := limitsTellRow, standIns := [], harness := (true, "25c8b1927ed480c51fc4b7608a0f7f42f2f46481e6d895ee2316f8ed1984400a"), looks := false }, kinds := [], alts := [], laidByText := true, laidKinds := [.widerDeep, .data, .widerDeep], laidTests := true, laidLooks := .later }
def LimitsTellCardSaid : Prop := Claim7.holds Tryz.pinned (.plain (OpenSpec.ofChange limitsTellSpec)) limitsTellCard

/-- THE TIED CARD OF 'dispatcherlaw30.LimitsEnough'. -/
def limitsEnoughCard : Claim7 := { stood := { row := limitsEnoughRow, standIns := [], harness := (true, "25c8b1927ed480c51fc4b7608a0f7f42f2f46481e6d895ee2316f8ed1984400a"), looks := false }, kinds := [], alts := [], laidByText := true, laidKinds := [.widerDeep, .data, .widerDeep], laidTests := true, laidLooks := .later }
def LimitsEnoughCardSaid : Prop := Claim7.holds Tryz.pinned (.plain (OpenSpec.ofChange limitsEnoughSpec)) limitsEnoughCard

/-- THE TIED CARD OF 'dispatcherlaw30.LimitsOne'. -/
def limitsOneCard : Claim7 := { stood := { row := limitsOneRow, standIns := [], harness := (true, "25c8b1927ed480c51fc4b7608a0f7f42f2f46481e6d895ee2316f8ed1984400a"), looks := false }, kinds := [], alts := [], laidByText := true, laidKinds := [.widerDeep, .data, .widerDeep], laidTests := true, laidLooks := .later }
def LimitsOneCardSaid : Prop := Claim7.holds Tryz.pinned (.plain (OpenSpec.ofChange limitsOneSpec)) limitsOneCard

/-- THE SECOND FORM's CARD OF 'dispatcherlaw30.LimitsTell'. -/
def limitsTellUptoCard : Claim7 := { stood := { row := limitsTellUptoRow, standIns := [], harness := (true, "25c8b1927ed480c51fc4b7608a0f7f42f2f46481e6d895ee2316f8ed1984400a"), looks := false }, kinds := [], alts := [], laidByText := true, laidKinds := [.widerDeep, .data, .widerDeep], laidTests := true, laidLooks := .later }
def LimitsTellUptoCardSaid : Prop := Claim7.holds Tryz.pinned (.plain (OpenSpec.upto limitsTellSpec)) limitsTellUptoCard

/-- THE SECOND FORM's CARD OF 'dispatcherlaw30.LimitsEnough'. -/
def limitsEnoughUptoCard : Claim7 := { stood := { row := limitsEnoughUptoRow, standIns := [], harness := (true, "25c8b1927ed480c51fc4b7608a0f7f42f2f46481e6d895ee2316f8ed1984400a"), looks := false }, kinds := [], alts := [], laidByText := true, laidKinds := [.widerDeep, .data, .widerDeep], laidTests := true, laidLooks := .later }
def LimitsEnoughUptoCardSaid : Prop := Claim7.holds Tryz.pinned (.plain (OpenSpec.upto limitsEnoughSpec)) limitsEnoughUptoCard

/-- THE SECOND FORM's CARD OF 'dispatcherlaw30.LimitsOne'. -/
def limitsOneUptoCard : Claim7 := { stood := { row := limitsOneUptoRow, standIns := [], harness := (true, "25c8b1927ed480c51fc4b7608a0f7f42f2f46481e6d895ee2316f8ed1984400a"), looks := false }, kinds := [], alts := [], laidByText := true, laidKinds := [.widerDeep, .data, .widerDeep], laidTests := true, laidLooks := .later }
def LimitsOneUptoCardSaid : Prop := Claim7.holds Tryz.pinned (.plain (OpenSpec.upto limitsOneSpec)) limitsOneUptoCard
end Rows
end Go.Proofs.YtpkfbaagpjdifaaGreatDoor
