/-
  NARROWER THAN 'FOR EVERY INPUT', by the rows' own cells (each row's printed sentence says how): ScopeChecks: loops, laid · ScopeFinds: loops, laid · ScopeNames: loops, laid · ScopeTells: loops, laid · ScopeApart: loops, laid · ScopeMore: loops, laid · ScopeNone: loops, laid.
  DERIVED. THE GIVEN ROWS OF THIS SEAT. 7 by the template 'for every input the law returns true; each argument reads behind the call as it read before'; 0 by the template 'total and deterministic' (their statements: YtbnbcimjapiicaaDoorTotals.lean).
  GIVEN WITH THE SEED: the statements are not yours to turn. If you find one false, say at which input.
  Laid BY PROGRAM, IN A SANDBOX (cutbox-rows.mjs): the forced cells as the released guide's own fill.sh prints them over the translation 903f86baa59a11d5… (all of the seat's roots in one cut). By AI agents, Wed Nov 11 2026. No macro, syntax, notation, axiom, sorry.
-/
import Derived.Test.YtbnbcimjapiicaaDoorChecked
import GoSem.Claim
import GoSem.ClaimJoined
import GoSem.ClaimMapViews
import Derived.JoinedTies
import Derived.KernelRfl
namespace Go.Proofs.YtbnbcimjapiicaaDoor
/- THE CELL 'sum', in the pinned program and in every row, IS THE sha256 OF THE DUMP (.gsa) THAT YtbnbcimjapiicaaDoorProg.lean LOADS. Nothing in Lean hashes anything: it is a label: what it is worth is what the hold of that sum in a sandbox is worth. -/
noncomputable def Tryd.pinned : Pinned := { name := "ytbnbcimjapiicaadoor", sum := "903f86baa59a11d586a7ad3d57d102f6b3b030c2fe7fb2b384f8ac022f58935c", checked := Tryd.checked }
namespace Rows
def none {H : Type} : Left H := { results := [], args := [] }

/- WHAT THE LISTED PACKAGE-LEVEL VARIABLES READ AS WHEN THE CALL BEGINS. Each datum BY PROGRAM (the guide's laid-datum.mjs) off the statement by which the dump's own 'gosem.cut.vars' lays the variable. In a bare row this is a premise. The card (YtbnbcimjapiicaaDoorCards.lean) ties it to the program's text. -/
def laid_dispatcher_scan_words {H : Type} : DataW H := .agg [.lit (.string [105, 110, 116]), .lit (.string [105, 102]), .lit (.string [101, 108, 115, 101]), .lit (.string [119, 104, 105, 108, 101]), .lit (.string [102, 111, 114]), .lit (.string [97, 115, 115, 101, 114, 116]), .lit (.string [115, 116, 111, 112]), .lit (.string [114, 97, 110, 107]), .lit (.string [115, 105, 122, 101]), .lit (.string [97, 110, 121]), .lit (.string [118, 97, 108, 117, 101]), .lit (.string [112, 101, 101, 114]), .lit (.string [116, 97, 103]), .lit (.string [102, 108, 97, 103]), .lit (.string [105, 110, 100, 101, 120]), .lit (.string [114, 101, 113]), .lit (.string [99, 111, 109, 109]), .lit (.string [114, 111, 119]), .lit (.string [115, 117, 109]), .lit (.string [109, 97, 120]), .lit (.string [109, 105, 110]), .lit (.string [115, 101, 110, 100]), .lit (.string [115, 115, 101, 110, 100]), .lit (.string [98, 115, 101, 110, 100]), .lit (.string [105, 115, 101, 110, 100]), .lit (.string [105, 115, 115, 101, 110, 100]), .lit (.string [114, 101, 99, 118]), .lit (.string [105, 114, 101, 99, 118]), .lit (.string [112, 114, 111, 98, 101]), .lit (.string [105, 112, 114, 111, 98, 101]), .lit (.string [119, 97, 105, 116]), .lit (.string [119, 97, 105, 116, 97, 108, 108]), .lit (.string [119, 97, 105, 116, 97, 110, 121]), .lit (.string [116, 101, 115, 116]), .lit (.string [116, 101, 115, 116, 97, 110, 121]), .lit (.string [98, 97, 114, 114, 105, 101, 114]), .lit (.string [98, 99, 97, 115, 116]), .lit (.string [114, 101, 100, 117, 99, 101]), .lit (.string [97, 108, 108, 114, 101, 100, 117, 99, 101]), .lit (.string [103, 97, 116, 104, 101, 114]), .lit (.string [100, 117, 112]), .lit (.string [115, 112, 108, 105, 116]), .lit (.string [102, 114, 101, 101])]
def laid_dispatcher_tree_args {H : Type} : DataW H := .agg [.lit (.int .i64 5), .lit (.int .i64 5), .lit (.int .i64 5), .lit (.int .i64 5), .lit (.int .i64 5), .lit (.int .i64 3), .lit (.int .i64 3), .lit (.int .i64 1), .lit (.int .i64 (-1)), .lit (.int .i64 (-1)), .lit (.int .i64 1), .lit (.int .i64 (-1)), .lit (.int .i64 3), .lit (.int .i64 3), .lit (.int .i64 1), .lit (.int .i64 3), .lit (.int .i64 3), .lit (.int .i64 2), .lit (.int .i64 3), .lit (.int .i64 1), .lit (.int .i64 3), .lit (.int .i64 1)]
def laid_dispatcher_tree_plain {H : Type} : DataW H := .agg [.lit (.string [114, 97, 110, 107]), .lit (.string [115, 105, 122, 101]), .lit (.string [97, 110, 121]), .lit (.string [118, 97, 108, 117, 101]), .lit (.string [112, 101, 101, 114]), .lit (.string [116, 97, 103]), .lit (.string [102, 108, 97, 103]), .lit (.string [105, 110, 100, 101, 120]), .lit (.string [114, 101, 113]), .lit (.string [99, 111, 109, 109])]

/-- 'dispatcherlaw04.ScopeChecks': WHATEVER THE INPUT: true; the input reads as it did. -/
def scopeChecksSpec : ChangeSpec := { name := "scopeChecks", fn := fun _ => fun
  | [d] => { results := [.lit (.bool true)], args := [d] }
  | _ => none }
def scopeChecksRow : OpenClaim := { program := "ytbnbcimjapiicaadoor", sum := "903f86baa59a11d586a7ad3d57d102f6b3b030c2fe7fb2b384f8ac022f58935c", func := "dispatcher/dispatcherlaw04.ScopeChecks", spec := "scopeChecks", unfollowed := true, recurses := true, named := ["dispatcher/scan.words", "dispatcher/tree.args", "dispatcher/tree.plain"], loops := true, apart := false, laid := [("dispatcher/scan.words", laid_dispatcher_scan_words), ("dispatcher/tree.args", laid_dispatcher_tree_args), ("dispatcher/tree.plain", laid_dispatcher_tree_plain)] }
def ScopeChecksSaid : Prop := scopeChecksRow.holds Tryd.pinned (OpenSpec.ofChange scopeChecksSpec)

/-- ITS FALSE NEIGHBOUR: 'it returns false'. Refute it at one input. -/
def scopeChecksWrong : ChangeSpec := { name := "scopeChecks", fn := fun _ => fun
  | [d] => { results := [.lit (.bool false)], args := [d] }
  | _ => none }
def ScopeChecksWrongFalsely : Prop := scopeChecksRow.holds Tryd.pinned (OpenSpec.ofChange scopeChecksWrong)

/-- 'dispatcherlaw04.ScopeFinds': WHATEVER THE INPUT: true; the input reads as it did. -/
def scopeFindsSpec : ChangeSpec := { name := "scopeFinds", fn := fun _ => fun
  | [d1, d2] => { results := [.lit (.bool true)], args := [d1, d2] }
  | _ => none }
def scopeFindsRow : OpenClaim := { program := "ytbnbcimjapiicaadoor", sum := "903f86baa59a11d586a7ad3d57d102f6b3b030c2fe7fb2b384f8ac022f58935c", func := "dispatcher/dispatcherlaw04.ScopeFinds", spec := "scopeFinds", unfollowed := true, recurses := true, named := ["dispatcher/scan.words", "dispatcher/tree.args", "dispatcher/tree.plain"], loops := true, apart := false, laid := [("dispatcher/scan.words", laid_dispatcher_scan_words), ("dispatcher/tree.args", laid_dispatcher_tree_args), ("dispatcher/tree.plain", laid_dispatcher_tree_plain)] }
def ScopeFindsSaid : Prop := scopeFindsRow.holds Tryd.pinned (OpenSpec.ofChange scopeFindsSpec)

/-- ITS FALSE NEIGHBOUR: 'it returns false'. Refute it at one input. -/
def scopeFindsWrong : ChangeSpec := { name := "scopeFinds", fn := fun _ => fun
  | [d1, d2] => { results := [.lit (.bool false)], args := [d1, d2] }
  | _ => none }
def ScopeFindsWrongFalsely : Prop := scopeFindsRow.holds Tryd.pinned (OpenSpec.ofChange scopeFindsWrong)

/-- 'dispatcherlaw04.ScopeNames': WHATEVER THE INPUT: true; the input reads as it did. -/
def scopeNamesSpec : ChangeSpec := { name := "scopeNames", fn := fun _ => fun
  | [d1, d2] => { results := [.lit (.bool true)], args := [d1, d2] }
  | _ => none }
def scopeNamesRow : OpenClaim := { program := "ytbnbcimjapiicaadoor", sum := "903f86baa59a11d586a7ad3d57d102f6b3b030c2fe7fb2b384f8ac022f58935c", func := "dispatcher/dispatcherlaw04.ScopeNames", spec := "scopeNames", unfollowed := true, recurses := true, named := ["dispatcher/scan.words", "dispatcher/tree.args", "dispatcher/tree.plain"], loops := true, apart := false, laid := [("dispatcher/scan.words", laid_dispatcher_scan_words), ("dispatcher/tree.args", laid_dispatcher_tree_args), ("dispatcher/tree.plain", laid_dispatcher_tree_plain)] }
def ScopeNamesSaid : Prop := scopeNamesRow.holds Tryd.pinned (OpenSpec.ofChange scopeNamesSpec)

/-- ITS FALSE NEIGHBOUR: 'it returns false'. Refute it at one input. -/
def scopeNamesWrong : ChangeSpec := { name := "scopeNames", fn := fun _ => fun
  | [d1, d2] => { results := [.lit (.bool false)], args := [d1, d2] }
  | _ => none }
def ScopeNamesWrongFalsely : Prop := scopeNamesRow.holds Tryd.pinned (OpenSpec.ofChange scopeNamesWrong)

/-- 'dispatcherlaw04.ScopeTells': WHATEVER THE INPUT: true; the input reads as it did. -/
def scopeTellsSpec : ChangeSpec := { name := "scopeTells", fn := fun _ => fun
  | [d] => { results := [.lit (.bool true)], args := [d] }
  | _ => none }
def scopeTellsRow : OpenClaim := { program := "ytbnbcimjapiicaadoor", sum := "903f86baa59a11d586a7ad3d57d102f6b3b030c2fe7fb2b384f8ac022f58935c", func := "dispatcher/dispatcherlaw04.ScopeTells", spec := "scopeTells", unfollowed := true, recurses := true, named := ["dispatcher/scan.words", "dispatcher/tree.args", "dispatcher/tree.plain"], loops := true, apart := false, laid := [("dispatcher/scan.words", laid_dispatcher_scan_words), ("dispatcher/tree.args", laid_dispatcher_tree_args), ("dispatcher/tree.plain", laid_dispatcher_tree_plain)] }
def ScopeTellsSaid : Prop := scopeTellsRow.holds Tryd.pinned (OpenSpec.ofChange scopeTellsSpec)

/-- ITS FALSE NEIGHBOUR: 'it returns false'. Refute it at one input. -/
def scopeTellsWrong : ChangeSpec := { name := "scopeTells", fn := fun _ => fun
  | [d] => { results := [.lit (.bool false)], args := [d] }
  | _ => none }
def ScopeTellsWrongFalsely : Prop := scopeTellsRow.holds Tryd.pinned (OpenSpec.ofChange scopeTellsWrong)

/-- 'dispatcherlaw04.ScopeApart': WHATEVER THE INPUT: true; the input reads as it did. -/
def scopeApartSpec : ChangeSpec := { name := "scopeApart", fn := fun _ => fun
  | [d1, d2] => { results := [.lit (.bool true)], args := [d1, d2] }
  | _ => none }
def scopeApartRow : OpenClaim := { program := "ytbnbcimjapiicaadoor", sum := "903f86baa59a11d586a7ad3d57d102f6b3b030c2fe7fb2b384f8ac022f58935c", func := "dispatcher/dispatcherlaw04.ScopeApart", spec := "scopeApart", unfollowed := true, recurses := true, named := ["dispatcher/scan.words", "dispatcher/tree.args", "dispatcher/tree.plain"], loops := true, apart := false, laid := [("dispatcher/scan.words", laid_dispatcher_scan_words), ("dispatcher/tree.args", laid_dispatcher_tree_args), ("dispatcher/tree.plain", laid_dispatcher_tree_plain)] }
def ScopeApartSaid : Prop := scopeApartRow.holds Tryd.pinned (OpenSpec.ofChange scopeApartSpec)

/-- ITS FALSE NEIGHBOUR: 'it returns false'. Refute it at one input. -/
def scopeApartWrong : ChangeSpec := { name := "scopeApart", fn := fun _ => fun
  | [d1, d2] => { results := [.lit (.bool false)], args := [d1, d2] }
  | _ => none }
def ScopeApartWrongFalsely : Prop := scopeApartRow.holds Tryd.pinned (OpenSpec.ofChange scopeApartWrong)

/-- 'dispatcherlaw04.ScopeMore': WHATEVER THE INPUT: true; the input reads as it did. -/
def scopeMoreSpec : ChangeSpec := { name := "scopeMore", fn := fun _ => fun
  | [d1, d2, d3, d4] => { results := [.lit (.bool true)], args := [d1, d2, d3, d4] }
  | _ => none }
def scopeMoreRow : OpenClaim := { program := "ytbnbcimjapiicaadoor", sum := "903f86baa59a11d586a7ad3d57d102f6b3b030c2fe7fb2b384f8ac022f58935c", func := "dispatcher/dispatcherlaw04.ScopeMore", spec := "scopeMore", unfollowed := true, recurses := true, named := ["dispatcher/scan.words", "dispatcher/tree.args", "dispatcher/tree.plain"], loops := true, apart := false, laid := [("dispatcher/scan.words", laid_dispatcher_scan_words), ("dispatcher/tree.args", laid_dispatcher_tree_args), ("dispatcher/tree.plain", laid_dispatcher_tree_plain)] }
def ScopeMoreSaid : Prop := scopeMoreRow.holds Tryd.pinned (OpenSpec.ofChange scopeMoreSpec)

/-- ITS FALSE NEIGHBOUR: 'it returns false'. Refute it at one input. -/
def scopeMoreWrong : ChangeSpec := { name := "scopeMore", fn := fun _ => fun
  | [d1, d2, d3, d4] => { results := [.lit (.bool false)], args := [d1, d2, d3, d4] }
  | _ => none }
def ScopeMoreWrongFalsely : Prop := scopeMoreRow.holds Tryd.pinned (OpenSpec.ofChange scopeMoreWrong)

/-- 'dispatcherlaw04.ScopeNone': WHATEVER THE INPUT: true; the input reads as it did. -/
def scopeNoneSpec : ChangeSpec := { name := "scopeNone", fn := fun _ => fun
  | [d1, d2] => { results := [.lit (.bool true)], args := [d1, d2] }
  | _ => none }
def scopeNoneRow : OpenClaim := { program := "ytbnbcimjapiicaadoor", sum := "903f86baa59a11d586a7ad3d57d102f6b3b030c2fe7fb2b384f8ac022f58935c", func := "dispatcher/dispatcherlaw04.ScopeNone", spec := "scopeNone", unfollowed := true, recurses := true, named := ["dispatcher/scan.words", "dispatcher/tree.args", "dispatcher/tree.plain"], loops := true, apart := false, laid := [("dispatcher/scan.words", laid_dispatcher_scan_words), ("dispatcher/tree.args", laid_dispatcher_tree_args), ("dispatcher/tree.plain", laid_dispatcher_tree_plain)] }
def ScopeNoneSaid : Prop := scopeNoneRow.holds Tryd.pinned (OpenSpec.ofChange scopeNoneSpec)

/-- ITS FALSE NEIGHBOUR: 'it returns false'. Refute it at one input. -/
def scopeNoneWrong : ChangeSpec := { name := "scopeNone", fn := fun _ => fun
  | [d1, d2] => { results := [.lit (.bool false)], args := [d1, d2] }
  | _ => none }
def ScopeNoneWrongFalsely : Prop := scopeNoneRow.holds Tryd.pinned (OpenSpec.ofChange scopeNoneWrong)

/- THE SECOND FORM. 'bulk': how many values and letters a reading holds, each counted each time it is reached (what is shared counts as often as it is met; a slice's spare places count too). A statement '..UptoSaid' is the law's where the arguments, and the package variables that the reading takes, are together of bulk at most 1048576: NARROWER than '..Said'. Prove '..Said' where nothing that the law and all that it calls make is longer than what came in: it says more and counts as full. Else prove '..UptoSaid'. A law counts once. -/
mutual
def uptoBulk {H : Type} : DataW H → Nat
  | .lit (.string bytes) => bytes.length + 1
  | .lit _ => 1
  | .nil => 1
  | .ptr d => uptoBulk d + 1
  | .slice elems spare => uptoBulkAll elems + uptoBulkAll spare + 1
  | .agg parts => uptoBulkAll parts + 1
  | .iface _ d => uptoBulk d + 1
  | .map entries => uptoBulkEntries entries + 1
  | .held _ => 1
def uptoBulkAll {H : Type} : List (DataW H) → Nat
  | [] => 0
  | d :: r => uptoBulk d + uptoBulkAll r
def uptoBulkEntries {H : Type} : List (Lit × DataW H) → Nat
  | [] => 0
  | x :: r => uptoBulkEntry x + uptoBulkEntries r
def uptoBulkEntry {H : Type} : Lit × DataW H → Nat
  | (.string bytes, d) => bytes.length + uptoBulk d + 1
  | (_, d) => uptoBulk d + 1
 end
def uptoSmall : (H : Type) → List (DataW H) → Bool := fun _ ds => decide (uptoBulkAll ds ≤ 1048576)
def OpenSpec.upto (s : _root_.Go.ChangeSpec) : _root_.Go.OpenSpec := { _root_.Go.OpenSpec.ofChange s with cond := some uptoSmall }

/-- 'dispatcherlaw04.ScopeChecks', WHERE WHAT IT READS IS OF BULK AT MOST 1048576: true; the input reads as it did. -/
def scopeChecksUptoRow : OpenClaim := { program := "ytbnbcimjapiicaadoor", sum := "903f86baa59a11d586a7ad3d57d102f6b3b030c2fe7fb2b384f8ac022f58935c", func := "dispatcher/dispatcherlaw04.ScopeChecks", spec := "scopeChecks", unfollowed := true, recurses := true, named := ["dispatcher/scan.words", "dispatcher/tree.args", "dispatcher/tree.plain"], loops := true, apart := false, laid := [("dispatcher/scan.words", laid_dispatcher_scan_words), ("dispatcher/tree.args", laid_dispatcher_tree_args), ("dispatcher/tree.plain", laid_dispatcher_tree_plain)], narrowed := true }
def ScopeChecksUptoSaid : Prop := scopeChecksUptoRow.holds Tryd.pinned (OpenSpec.upto scopeChecksSpec)

/-- 'dispatcherlaw04.ScopeFinds', WHERE WHAT IT READS IS OF BULK AT MOST 1048576: true; the input reads as it did. -/
def scopeFindsUptoRow : OpenClaim := { program := "ytbnbcimjapiicaadoor", sum := "903f86baa59a11d586a7ad3d57d102f6b3b030c2fe7fb2b384f8ac022f58935c", func := "dispatcher/dispatcherlaw04.ScopeFinds", spec := "scopeFinds", unfollowed := true, recurses := true, named := ["dispatcher/scan.words", "dispatcher/tree.args", "dispatcher/tree.plain"], loops := true, apart := false, laid := [("dispatcher/scan.words", laid_dispatcher_scan_words), ("dispatcher/tree.args", laid_dispatcher_tree_args), ("dispatcher/tree.plain", laid_dispatcher_tree_plain)], narrowed := true }
def ScopeFindsUptoSaid : Prop := scopeFindsUptoRow.holds Tryd.pinned (OpenSpec.upto scopeFindsSpec)

/-- 'dispatcherlaw04.ScopeNames', WHERE WHAT IT READS IS OF BULK AT MOST 1048576: true; the input reads as it did. -/
def scopeNamesUptoRow : OpenClaim := { program := "ytbnbcimjapiicaadoor", sum := "903f86baa59a11d586a7ad3d57d102f6b3b030c2fe7fb2b384f8ac022f58935c", func := "dispatcher/dispatcherlaw04.ScopeNames", spec := "scopeNames", unfollowed := true, recurses := true, named := ["dispatcher/scan.words", "dispatcher/tree.args", "dispatcher/tree.plain"], loops := true, apart := false, laid := [("dispatcher/scan.words", laid_dispatcher_scan_words), ("dispatcher/tree.args", laid_dispatcher_tree_args), ("dispatcher/tree.plain", laid_dispatcher_tree_plain)], narrowed := true }
def ScopeNamesUptoSaid : Prop := scopeNamesUptoRow.holds Tryd.pinned (OpenSpec.upto scopeNamesSpec)

/-- 'dispatcherlaw04.ScopeTells', WHERE WHAT IT READS IS OF BULK AT MOST 1048576: true; the input reads as it did. -/
def scopeTellsUptoRow : OpenClaim := { program := "ytbnbcimjapiicaadoor", sum := "903f86baa59a11d586a7ad3d57d102f6b3b030c2fe7fb2b384f8ac022f58935c", func := "dispatcher/dispatcherlaw04.ScopeTells", spec := "scopeTells", unfollowed := true, recurses := true, named := ["dispatcher/scan.words", "dispatcher/tree.args", "dispatcher/tree.plain"], loops := true, apart := false, laid := [("dispatcher/scan.words", laid_dispatcher_scan_words), ("dispatcher/tree.args", laid_dispatcher_tree_args), ("dispatcher/tree.plain", laid_dispatcher_tree_plain)], narrowed := true }
def ScopeTellsUptoSaid : Prop := scopeTellsUptoRow.holds Tryd.pinned (OpenSpec.upto scopeTellsSpec)

/-- 'dispatcherlaw04.ScopeApart', WHERE WHAT IT READS IS OF BULK AT MOST 1048576: true; the input reads as it did. -/
def scopeApartUptoRow : OpenClaim := { program := "ytbnbcimjapiicaadoor", sum := "903f86baa59a11d586a7ad3d57d102f6b3b030c2fe7fb2b384f8ac022f58935c", func := "dispatcher/dispatcherlaw04.ScopeApart", spec := "scopeApart", unfollowed := true, recurses := true, named := ["dispatcher/scan.words", "dispatcher/tree.args", "dispatcher/tree.plain"], loops := true, apart := false, laid := [("dispatcher/scan.words", laid_dispatcher_scan_words), ("dispatcher/tree.args", laid_dispatcher_tree_args), ("dispatcher/tree.plain", laid_dispatcher_tree_plain)], narrowed := true }
def ScopeApartUptoSaid : Prop := scopeApartUptoRow.holds Tryd.pinned (OpenSpec.upto scopeApartSpec)

/-- 'dispatcherlaw04.ScopeMore', WHERE WHAT IT READS IS OF BULK AT MOST 1048576: true; the input reads as it did. -/
def scopeMoreUptoRow : OpenClaim := { program := "ytbnbcimjapiicaadoor", sum := "903f86baa59a11d586a7ad3d57d102f6b3b030c2fe7fb2b384f8ac022f58935c", func := "dispatcher/dispatcherlaw04.ScopeMore", spec := "scopeMore", unfollowed := true, recurses := true, named := ["dispatcher/scan.words", "dispatcher/tree.args", "dispatcher/tree.plain"], loops := true, apart := false, laid := [("dispatcher/scan.words", laid_dispatcher_scan_words), ("dispatcher/tree.args", laid_dispatcher_tree_args), ("dispatcher/tree.plain", laid_dispatcher_tree_plain)], narrowed := true }
def ScopeMoreUptoSaid : Prop := scopeMoreUptoRow.holds Tryd.pinned (OpenSpec.upto scopeMoreSpec)

/-- 'dispatcherlaw04.ScopeNone', WHERE WHAT IT READS IS OF BULK AT MOST 1048576: true; the input reads as it did. -/
def scopeNoneUptoRow : OpenClaim := { program := "ytbnbcimjapiicaadoor", sum := "903f86baa59a11d586a7ad3d57d102f6b3b030c2fe7fb2b384f8ac022f58935c", func := "dispatcher/dispatcherlaw04.ScopeNone", spec := "scopeNone", unfollowed := true, recurses := true, named := ["dispatcher/scan.words", "dispatcher/tree.args", "dispatcher/tree.plain"], loops := true, apart := false, laid := [("dispatcher/scan.words", laid_dispatcher_scan_words), ("dispatcher/tree.args", laid_dispatcher_tree_args), ("dispatcher/tree.plain", laid_dispatcher_tree_plain)], narrowed := true }
def ScopeNoneUptoSaid : Prop := scopeNoneUptoRow.holds Tryd.pinned (OpenSpec.upto scopeNoneSpec)

end Rows
end Go.Proofs.YtbnbcimjapiicaaDoor
