/-
  DERIVED. GIVEN WITH THE SEED: THE CARDS: each row of YtandbmnhghmcgaaDoorRows.lean that lists a variable, with what it lists TIED to the program's text (the seventh form; the later family's looks); each row that meets fmt, with fmt's text TOLD by the authors' own Lean function (tested against real Go, not proved from fmt's source: count such statements apart). THE CARD IS WHAT COUNTS. Prove the row's statement (the work); the ties are given (YtandbmnhghmcgaaDoorTie.lean); close each card by the builder's one call (the guide's Derived/Test/ToyasCard.lean, 'card_holds'). Laid BY PROGRAM, IN A SANDBOX (cutbox-door.mjs). By AI agents, Wed Nov 11 2026. No macro, syntax, notation, axiom, sorry.
-/
import Derived.Test.YtandbmnhghmcgaaDoorRows
import GoSem.ClaimSeven
namespace Go.Proofs.YtandbmnhghmcgaaDoor
namespace Rows

/-- THE TIED CARD OF 'dispatcherlaw15.CollTells'. -/
def collTellsCard : Claim7 := { stood := { row := collTellsRow, standIns := [], harness := (true, "03c3fa8a8cb2ba5204d6f6db6c76afa5fc08c17760436eae804870baef5dfa3b"), looks := false }, kinds := [], alts := [], laidByText := true, laidKinds := [.data, .data, .data], laidTests := true, laidLooks := .later }
def CollTellsCardSaid : Prop := Claim7.holds Tryd.pinned (.plain (OpenSpec.ofChange collTellsSpec)) collTellsCard

/-- THE TIED CARD OF 'dispatcherlaw15.CollPlays'. -/
def collPlaysCard : Claim7 := { stood := { row := collPlaysRow, standIns := [], harness := (true, "03c3fa8a8cb2ba5204d6f6db6c76afa5fc08c17760436eae804870baef5dfa3b"), looks := false }, kinds := [], alts := [], laidByText := true, laidKinds := [.data, .data, .data], laidTests := true, laidLooks := .later }
def CollPlaysCardSaid : Prop := Claim7.holds Tryd.pinned (.plain (OpenSpec.ofChange collPlaysSpec)) collPlaysCard

/-- THE TIED CARD OF 'dispatcherlaw15.CollGrows'. -/
def collGrowsCard : Claim7 := { stood := { row := collGrowsRow, standIns := [], harness := (true, "03c3fa8a8cb2ba5204d6f6db6c76afa5fc08c17760436eae804870baef5dfa3b"), looks := false }, kinds := [], alts := [], laidByText := true, laidKinds := [.data, .data, .data], laidTests := true, laidLooks := .later }
def CollGrowsCardSaid : Prop := Claim7.holds Tryd.pinned (.plain (OpenSpec.ofChange collGrowsSpec)) collGrowsCard

/-- THE TIED CARD OF 'dispatcherlaw15.CollAll'. -/
def collAllCard : Claim7 := { stood := { row := collAllRow, standIns := [], harness := (true, "03c3fa8a8cb2ba5204d6f6db6c76afa5fc08c17760436eae804870baef5dfa3b"), looks := false }, kinds := [], alts := [], laidByText := true, laidKinds := [.data, .data, .data], laidTests := true, laidLooks := .later }
def CollAllCardSaid : Prop := Claim7.holds Tryd.pinned (.plain (OpenSpec.ofChange collAllSpec)) collAllCard

/-- THE TIED CARD OF 'dispatcherlaw15.CollOrder'. -/
def collOrderCard : Claim7 := { stood := { row := collOrderRow, standIns := [], harness := (true, "03c3fa8a8cb2ba5204d6f6db6c76afa5fc08c17760436eae804870baef5dfa3b"), looks := false }, kinds := [], alts := [], laidByText := true, laidKinds := [.data, .data, .data], laidTests := true, laidLooks := .later }
def CollOrderCardSaid : Prop := Claim7.holds Tryd.pinned (.plain (OpenSpec.ofChange collOrderSpec)) collOrderCard

/-- THE TIED CARD OF 'dispatcherlaw15.CollValues'. -/
def collValuesCard : Claim7 := { stood := { row := collValuesRow, standIns := [], harness := (true, "03c3fa8a8cb2ba5204d6f6db6c76afa5fc08c17760436eae804870baef5dfa3b"), looks := false }, kinds := [], alts := [], laidByText := true, laidKinds := [.data, .data, .data], laidTests := true, laidLooks := .later }
def CollValuesCardSaid : Prop := Claim7.holds Tryd.pinned (.plain (OpenSpec.ofChange collValuesSpec)) collValuesCard

/-- THE TIED CARD OF 'dispatcherlaw15.CollNil'. -/
def collNilCard : Claim7 := { stood := { row := collNilRow, standIns := [], harness := (true, "03c3fa8a8cb2ba5204d6f6db6c76afa5fc08c17760436eae804870baef5dfa3b"), looks := false }, kinds := [], alts := [], laidByText := true, laidKinds := [.data, .data, .data], laidTests := true, laidLooks := .later }
def CollNilCardSaid : Prop := Claim7.holds Tryd.pinned (.plain (OpenSpec.ofChange collNilSpec)) collNilCard

/-- THE SECOND FORM's CARD OF 'dispatcherlaw15.CollTells'. -/
def collTellsUptoCard : Claim7 := { stood := { row := collTellsUptoRow, standIns := [], harness := (true, "03c3fa8a8cb2ba5204d6f6db6c76afa5fc08c17760436eae804870baef5dfa3b"), looks := false }, kinds := [], alts := [], laidByText := true, laidKinds := [.data, .data, .data], laidTests := true, laidLooks := .later }
def CollTellsUptoCardSaid : Prop := Claim7.holds Tryd.pinned (.plain (OpenSpec.upto collTellsSpec)) collTellsUptoCard

/-- THE SECOND FORM's CARD OF 'dispatcherlaw15.CollPlays'. -/
def collPlaysUptoCard : Claim7 := { stood := { row := collPlaysUptoRow, standIns := [], harness := (true, "03c3fa8a8cb2ba5204d6f6db6c76afa5fc08c17760436eae804870baef5dfa3b"), looks := false }, kinds := [], alts := [], laidByText := true, laidKinds := [.data, .data, .data], laidTests := true, laidLooks := .later }
def CollPlaysUptoCardSaid : Prop := Claim7.holds Tryd.pinned (.plain (OpenSpec.upto collPlaysSpec)) collPlaysUptoCard

/-- THE SECOND FORM's CARD OF 'dispatcherlaw15.CollGrows'. -/
def collGrowsUptoCard : Claim7 := { stood := { row := collGrowsUptoRow, standIns := [], harness := (true, "03c3fa8a8cb2ba5204d6f6db6c76afa5fc08c17760436eae804870baef5dfa3b"), looks := false }, kinds := [], alts := [], laidByText := true, laidKinds := [.data, .data, .data], laidTests := true, laidLooks := .later }
def CollGrowsUptoCardSaid : Prop := Claim7.holds Tryd.pinned (.plain (OpenSpec.upto collGrowsSpec)) collGrowsUptoCard

/-- THE SECOND FORM's CARD OF 'dispatcherlaw15.CollAll'. -/
def collAllUptoCard : Claim7 := { stood := { row := collAllUptoRow, standIns := [], harness := (true, "03c3fa8a8cb2ba5204d6f6db6c76afa5fc08c17760436eae804870baef5dfa3b"), looks := false }, kinds := [], alts := [], laidByText := true, laidKinds := [.data, .data, .data], laidTests := true, laidLooks := .later }
def CollAllUptoCardSaid : Prop := Claim7.holds Tryd.pinned (.plain (OpenSpec.upto collAllSpec)) collAllUptoCard

/-- THE SECOND FORM's CARD OF 'dispatcherlaw15.CollOrder'. -/
def collOrderUptoCard : Claim7 := { stood := { row := collOrderUptoRow, standIns := [], harness := (true, "03c3fa8a8cb2ba5204d6f6db6c76afa5fc08c17760436eae804870baef5dfa3b"), looks := false }, kinds := [], alts := [], laidByText := true, laidKinds := [.data, .data, .data], laidTests := true, laidLooks := .later }
def CollOrderUptoCardSaid : Prop := Claim7.holds Tryd.pinned (.plain (OpenSpec.upto collOrderSpec)) collOrderUptoCard

/-- THE SECOND FORM's CARD OF 'dispatcherlaw15.CollValues'. -/
def collValuesUptoCard : Claim7 := { stood := { row := collValuesUptoRow, standIns := [], harness := (true, "03c3fa8a8cb2ba5204d6f6db6c76afa5fc08c17760436eae804870baef5dfa3b"), looks := false }, kinds := [], alts := [], laidByText := true, laidKinds := [.data, .data, .data], laidTests := true, laidLooks := .later }
def CollValuesUptoCardSaid : Prop := Claim7.holds Tryd.pinned (.plain (OpenSpec.upto collValuesSpec)) collValuesUptoCard

/-- THE SECOND FORM's CARD OF 'dispatcherlaw15.CollNil'. -/
def collNilUptoCard : Claim7 := { stood := { row := collNilUptoRow, standIns := [], harness := (true, "03c3fa8a8cb2ba5204d6f6db6c76afa5fc08c17760436eae804870baef5dfa3b"), looks := false }, kinds := [], alts := [], laidByText := true, laidKinds := [.data, .data, .data], laidTests := true, laidLooks := .later }
def CollNilUptoCardSaid : Prop := Claim7.holds Tryd.pinned (.plain (OpenSpec.upto collNilSpec)) collNilUptoCard
end Rows
end Go.Proofs.YtandbmnhghmcgaaDoor
