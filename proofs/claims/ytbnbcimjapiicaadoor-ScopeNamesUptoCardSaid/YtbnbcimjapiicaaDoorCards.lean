/-
  DERIVED. GIVEN WITH THE SEED: THE CARDS: each row of YtbnbcimjapiicaaDoorRows.lean that lists a variable, with what it lists TIED to the program's text (the seventh form; the later family's looks); each row that meets fmt, with fmt's text TOLD by the authors' own Lean function (tested against real Go, not proved from fmt's source: count such statements apart). THE CARD IS WHAT COUNTS. Prove the row's statement (the work); the ties are given (YtbnbcimjapiicaaDoorTie.lean); close each card by the builder's one call (the guide's Derived/Test/ToyasCard.lean, 'card_holds'). Laid BY PROGRAM, IN A SANDBOX (cutbox-door.mjs). By AI agents, Wed Nov 11 2026. No macro, syntax, notation, axiom, sorry.
-/
import Derived.Test.YtbnbcimjapiicaaDoorRows
import GoSem.ClaimSeven
namespace Go.Proofs.YtbnbcimjapiicaaDoor
namespace Rows

/-- THE TIED CARD OF 'dispatcherlaw04.ScopeChecks'. -/
def scopeChecksCard : Claim7 := { stood := { row := scopeChecksRow, standIns := [], harness := (true, "fd04c85e395457799e9441b46547d068b4074587a1bd5fe6eafeadaf33309495"), looks := false }, kinds := [], alts := [], laidByText := true, laidKinds := [.widerDeep, .data, .widerDeep], laidTests := true, laidLooks := .later }
def ScopeChecksCardSaid : Prop := Claim7.holds Tryd.pinned (.plain (OpenSpec.ofChange scopeChecksSpec)) scopeChecksCard

/-- THE TIED CARD OF 'dispatcherlaw04.ScopeFinds'. -/
def scopeFindsCard : Claim7 := { stood := { row := scopeFindsRow, standIns := [], harness := (true, "fd04c85e395457799e9441b46547d068b4074587a1bd5fe6eafeadaf33309495"), looks := false }, kinds := [], alts := [], laidByText := true, laidKinds := [.widerDeep, .data, .widerDeep], laidTests := true, laidLooks := .later }
def ScopeFindsCardSaid : Prop := Claim7.holds Tryd.pinned (.plain (OpenSpec.ofChange scopeFindsSpec)) scopeFindsCard

/-- THE TIED CARD OF 'dispatcherlaw04.ScopeNames'. -/
def scopeNamesCard : Claim7 := { stood := { row := scopeNamesRow, standIns := [], harness := (true, "fd04c85e395457799e9441b46547d068b4074587a1bd5fe6eafeadaf33309495"), looks := false }, kinds := [], alts := [], laidByText := true, laidKinds := [.widerDeep, .data, .widerDeep], laidTests := true, laidLooks := .later }
def ScopeNamesCardSaid : Prop := Claim7.holds Tryd.pinned (.plain (OpenSpec.ofChange scopeNamesSpec)) scopeNamesCard

/-- THE TIED CARD OF 'dispatcherlaw04.ScopeTells'. -/
def scopeTellsCard : Claim7 := { stood := { row := scopeTellsRow, standIns := [], harness := (true, "fd04c85e395457799e9441b46547d068b4074587a1bd5fe6eafeadaf33309495"), looks := false }, kinds := [], alts := [], laidByText := true, laidKinds := [.widerDeep, .data, .widerDeep], laidTests := true, laidLooks := .later }
def ScopeTellsCardSaid : Prop := Claim7.holds Tryd.pinned (.plain (OpenSpec.ofChange scopeTellsSpec)) scopeTellsCard

/-- THE TIED CARD OF 'dispatcherlaw04.ScopeApart'. -/
def scopeApartCard : Claim7 := { stood := { row := scopeApartRow, standIns := [], harness := (true, "fd04c85e395457799e9441b46547d068b4074587a1bd5fe6eafeadaf33309495"), looks := false }, kinds := [], alts := [], laidByText := true, laidKinds := [.widerDeep, .data, .widerDeep], laidTests := true, laidLooks := .later }
def ScopeApartCardSaid : Prop := Claim7.holds Tryd.pinned (.plain (OpenSpec.ofChange scopeApartSpec)) scopeApartCard

/-- THE TIED CARD OF 'dispatcherlaw04.ScopeMore'. -/
def scopeMoreCard : Claim7 := { stood := { row := scopeMoreRow, standIns := [], harness := (true, "fd04c85e395457799e9441b46547d068b4074587a1bd5fe6eafeadaf33309495"), looks := false }, kinds := [], alts := [], laidByText := true, laidKinds := [.widerDeep, .data, .widerDeep], laidTests := true, laidLooks := .later }
def ScopeMoreCardSaid : Prop := Claim7.holds Tryd.pinned (.plain (OpenSpec.ofChange scopeMoreSpec)) scopeMoreCard

/-- THE TIED CARD OF 'dispatcherlaw04.ScopeNone'. -/
def scopeNoneCard : Claim7 := { stood := { row := scopeNoneRow, standIns := [], harness := (true, "fd04c85e395457799e9441b46547d068b4074587a1bd5fe6eafeadaf33309495"), looks := false }, kinds := [], alts := [], laidByText := true, laidKinds := [.widerDeep, .data, .widerDeep], laidTests := true, laidLooks := .later }
def ScopeNoneCardSaid : Prop := Claim7.holds Tryd.pinned (.plain (OpenSpec.ofChange scopeNoneSpec)) scopeNoneCard

/-- THE SECOND FORM's CARD OF 'dispatcherlaw04.ScopeChecks'. -/
def scopeChecksUptoCard : Claim7 := { stood := { row := scopeChecksUptoRow, standIns := [], harness := (true, "fd04c85e395457799e9441b46547d068b4074587a1bd5fe6eafeadaf33309495"), looks := false }, kinds := [], alts := [], laidByText := true, laidKinds := [.widerDeep, .data, .widerDeep], laidTests := true, laidLooks := .later }
def ScopeChecksUptoCardSaid : Prop := Claim7.holds Tryd.pinned (.plain (OpenSpec.upto scopeChecksSpec)) scopeChecksUptoCard

/-- THE SECOND FORM's CARD OF 'dispatcherlaw04.ScopeFinds'. -/
def scopeFindsUptoCard : Claim7 := { stood := { row := scopeFindsUptoRow, standIns := [], harness := (true, "fd04c85e395457799e9441b46547d068b4074587a1bd5fe6eafeadaf33309495"), looks := false }, kinds := [], alts := [], laidByText := true, laidKinds := [.widerDeep, .data, .widerDeep], laidTests := true, laidLooks := .later }
def ScopeFindsUptoCardSaid : Prop := Claim7.holds Tryd.pinned (.plain (OpenSpec.upto scopeFindsSpec)) scopeFindsUptoCard

/-- THE SECOND FORM's CARD OF 'dispatcherlaw04.ScopeNames'. -/
def scopeNamesUptoCard : Claim7 := { stood := { row := scopeNamesUptoRow, standIns := [], harness := (true, "fd04c85e395457799e9441b46547d068b4074587a1bd5fe6eafeadaf33309495"), looks := false }, kinds := [], alts := [], laidByText := true, laidKinds := [.widerDeep, .data, .widerDeep], laidTests := true, laidLooks := .later }
def ScopeNamesUptoCardSaid : Prop := Claim7.holds Tryd.pinned (.plain (OpenSpec.upto scopeNamesSpec)) scopeNamesUptoCard

/-- THE SECOND FORM's CARD OF 'dispatcherlaw04.ScopeTells'. -/
def scopeTellsUptoCard : Claim7 := { stood := { row := scopeTellsUptoRow, standIns := [], harness := (true, "fd04c85e395457799e9441b46547d068b4074587a1bd5fe6eafeadaf33309495"), looks := false }, kinds := [], alts := [], laidByText := true, laidKinds := [.widerDeep, .data, .widerDeep], laidTests := true, laidLooks := .later }
def ScopeTellsUptoCardSaid : Prop := Claim7.holds Tryd.pinned (.plain (OpenSpec.upto scopeTellsSpec)) scopeTellsUptoCard

/-- THE SECOND FORM's CARD OF 'dispatcherlaw04.ScopeApart'. -/
def scopeApartUptoCard : Claim7 := { stood := { row := scopeApartUptoRow, standIns := [], harness := (true, "fd04c85e395457799e9441b46547d068b4074587a1bd5fe6eafeadaf33309495"), looks := false }, kinds := [], alts := [], laidByText := true, laidKinds := [.widerDeep, .data, .widerDeep], laidTests := true, laidLooks := .later }
def ScopeApartUptoCardSaid : Prop := Claim7.holds Tryd.pinned (.plain (OpenSpec.upto scopeApartSpec)) scopeApartUptoCard

/-- THE SECOND FORM's CARD OF 'dispatcherlaw04.ScopeMore'. -/
def scopeMoreUptoCard : Claim7 := { stood := { row := scopeMoreUptoRow, standIns := [], harness := (true, "fd04c85e395457799e9441b46547d068b4074587a1bd5fe6eafeadaf33309495"), looks := false }, kinds := [], alts := [], laidByText := true, laidKinds := [.widerDeep, .data, .widerDeep], laidTests := true, laidLooks := .later }
def ScopeMoreUptoCardSaid : Prop := Claim7.holds Tryd.pinned (.plain (OpenSpec.upto scopeMoreSpec)) scopeMoreUptoCard

/-- THE SECOND FORM's CARD OF 'dispatcherlaw04.ScopeNone'. -/
def scopeNoneUptoCard : Claim7 := { stood := { row := scopeNoneUptoRow, standIns := [], harness := (true, "fd04c85e395457799e9441b46547d068b4074587a1bd5fe6eafeadaf33309495"), looks := false }, kinds := [], alts := [], laidByText := true, laidKinds := [.widerDeep, .data, .widerDeep], laidTests := true, laidLooks := .later }
def ScopeNoneUptoCardSaid : Prop := Claim7.holds Tryd.pinned (.plain (OpenSpec.upto scopeNoneSpec)) scopeNoneUptoCard
end Rows
end Go.Proofs.YtbnbcimjapiicaaDoor
