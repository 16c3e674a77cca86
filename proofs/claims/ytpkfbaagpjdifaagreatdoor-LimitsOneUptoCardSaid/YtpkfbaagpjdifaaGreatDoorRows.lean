/-
  NARROWER THAN 'FOR EVERY INPUT', by the rows' own cells (each row's printed sentence says how): LimitsTell: loops, laid · LimitsEnough: loops, laid · LimitsOne: loops, laid.
  DERIVED. THE GIVEN ROWS OF THIS SEAT. 3 by the template 'for every input the law returns true; each argument reads behind the call as it read before'; 0 by the template 'total and deterministic' (their statements: YtpkfbaagpjdifaaGreatDoorTotals.lean).
  GIVEN WITH THE SEED: the statements are not yours to turn. If you find one false, say at which input.
  Laid BY PROGRAM, IN A SANDBOX (cutbox-rows.mjs): the forced cells as the released guide's own fill.sh prints them over the translation 2753ac4975fbcceb… (all of the seat's roots in one cut). By AI agents, Wed Nov 11 2026. No macro, syntax, notation, axiom, sorry.
-/
import Derived.Test.YtpkfbaagpjdifaaGreatDoorChecked
import GoSem.Claim
import GoSem.ClaimJoined
import GoSem.ClaimMapViews
import Derived.JoinedTies
import Derived.KernelRfl
namespace Go.Proofs.YtpkfbaagpjdifaaGreatDoor
/- THE CELL 'sum', in the pinned program and in every row, IS THE sha256 OF THE DUMP (.gsa) THAT YtpkfbaagpjdifaaGreatDoorProg.lean LOADS. Nothing in Lean hashes anything: it is a label: what it is worth is what the hold of that sum in a sandbox is worth. -/
noncomputable def Tryz.pinned : Pinned := { name := "ytpkfbaagpjdifaagreatdoor", sum := "2753ac4975fbccebbeb8fbc37f16dc9d76936247ce37df3999a43104851ed7bb", checked := Tryz.checked }
namespace Rows
def none {H : Type} : Left H := { results := [], args := [] }

/- WHAT THE LISTED PACKAGE-LEVEL VARIABLES READ AS WHEN THE CALL BEGINS. Each datum BY PROGRAM (the guide's laid-datum.mjs) off the statement by which the dump's own 'gosem.cut.vars' lays the variable. In a bare row this is a premise. The card (YtpkfbaagpjdifaaGreatDoorCards.lean) ties it to the program's text. -/
def laid_dispatcher_scan_words {H : Type} : DataW H := .agg [.lit (.string [105, 110, 116]), .lit (.string [105, 102]), .lit (.string [101, 108, 115, 101]), .lit (.string [119, 104, 105, 108, 101]), .lit (.string [102, 111, 114]), .lit (.string [97, 115, 115, 101, 114, 116]), .lit (.string [115, 116, 111, 112]), .lit (.string [114, 97, 110, 107]), .lit (.string [115, 105, 122, 101]), .lit (.string [97, 110, 121]), .lit (.string [118, 97, 108, 117, 101]), .lit (.string [112, 101, 101, 114]), .lit (.string [116, 97, 103]), .lit (.string [102, 108, 97, 103]), .lit (.string [105, 110, 100, 101, 120]), .lit (.string [114, 101, 113]), .lit (.string [99, 111, 109, 109]), .lit (.string [114, 111, 119]), .lit (.string [115, 117, 109]), .lit (.string [109, 97, 120]), .lit (.string [109, 105, 110]), .lit (.string [115, 101, 110, 100]), .lit (.string [115, 115, 101, 110, 100]), .lit (.string [98, 115, 101, 110, 100]), .lit (.string [105, 115, 101, 110, 100]), .lit (.string [105, 115, 115, 101, 110, 100]), .lit (.string [114, 101, 99, 118]), .lit (.string [105, 114, 101, 99, 118]), .lit (.string [112, 114, 111, 98, 101]), .lit (.string [105, 112, 114, 111, 98, 101]), .lit (.string [119, 97, 105, 116]), .lit (.string [119, 97, 105, 116, 97, 108, 108]), .lit (.string [119, 97, 105, 116, 97, 110, 121]), .lit (.string [116, 101, 115, 116]), .lit (.string [116, 101, 115, 116, 97, 110, 121]), .lit (.string [98, 97, 114, 114, 105, 101, 114]), .lit (.string [98, 99, 97, 115, 116]), .lit (.string [114, 101, 100, 117, 99, 101]), .lit (.string [97, 108, 108, 114, 101, 100, 117, 99, 101]), .lit (.string [103, 97, 116, 104, 101, 114]), .lit (.string [100, 117, 112]), .lit (.string [115, 112, 108, 105, 116]), .lit (.string [102, 114, 101, 101])]
def laid_dispatcher_tree_args {H : Type} : DataW H := .agg [.lit (.int .i64 5), .lit (.int .i64 5), .lit (.int .i64 5), .lit (.int .i64 5), .lit (.int .i64 5), .lit (.int .i64 3), .lit (.int .i64 3), .lit (.int .i64 1), .lit (.int .i64 (-1)), .lit (.int .i64 (-1)), .lit (.int .i64 1), .lit (.int .i64 (-1)), .lit (.int .i64 3), .lit (.int .i64 3), .lit (.int .i64 1), .lit (.int .i64 3), .lit (.int .i64 3), .lit (.int .i64 2), .lit (.int .i64 3), .lit (.int .i64 1), .lit (.int .i64 3), .lit (.int .i64 1)]
def laid_dispatcher_tree_plain {H : Type} : DataW H := .agg [.lit (.string [114, 97, 110, 107]), .lit (.string [115, 105, 122, 101]), .lit (.string [97, 110, 121]), .lit (.string [118, 97, 108, 117, 101]), .lit (.string [112, 101, 101, 114]), .lit (.string [116, 97, 103]), .lit (.string [102, 108, 97, 103]), .lit (.string [105, 110, 100, 101, 120]), .lit (.string [114, 101, 113]), .lit (.string [99, 111, 109, 109])]

/-- 'dispatcherlaw30.LimitsTell': WHATEVER THE INPUT: true; the input reads as it did. -/
def limitsTellSpec : ChangeSpec := { name := "limitsTell", fn := fun _ => fun
  | [d1, d2] => { results := [.lit (.bool true)], args := [d1, d2] }
  | _ => none }
def limitsTellRow : OpenClaim := { program := "ytpkfbaagpjdifaagreatdoor", sum := "2753ac4975fbccebbeb8fbc37f16dc9d76936247ce37df3999a43104851ed7bb", func := "dispatcher/dispatcherlaw30.LimitsTell", spec := "limitsTell", unfollowed := true, recurses := true, named := ["dispatcher/scan.words", "dispatcher/tree.args", "dispatcher/tree.plain"], loops := true, apart := false, laid := [("dispatcher/scan.words", laid_dispatcher_scan_words), ("dispatcher/tree.args", laid_dispatcher_tree_args), ("dispatcher/tree.plain", laid_dispatcher_tree_plain)] }
def LimitsTellSaid : Prop := limitsTellRow.holds Tryz.pinned (OpenSpec.ofChange limitsTellSpec)

/-- ITS FALSE NEIGHBOUR: 'it returns false'. Refute it at one input. -/
def limitsTellWrong : ChangeSpec := { name := "limitsTell", fn := fun _ => fun
  | [d1, d2] => { results := [.lit (.bool false)], args := [d1, d2] }
  | _ => none }
def LimitsTellWrongFalsely : Prop := limitsTellRow.holds Tryz.pinned (OpenSpec.ofChange limitsTellWrong)

/-- 'dispatcherlaw30.LimitsEnough': WHATEVER THE INPUT: true; the input reads as it did. -/
def limitsEnoughSpec : ChangeSpec := { name := "limitsEnough", fn := fun _ => fun
  | [d1, d2] => { results := [.lit (.bool true)], args := [d1, d2] }
  | _ => none }
def limitsEnoughRow : OpenClaim := { program := "ytpkfbaagpjdifaagreatdoor", sum := "2753ac4975fbccebbeb8fbc37f16dc9d76936247ce37df3999a43104851ed7bb", func := "dispatcher/dispatcherlaw30.LimitsEnough", spec := "limitsEnough", unfollowed := true, recurses := true, named := ["dispatcher/scan.words", "dispatcher/tree.args", "dispatcher/tree.plain"], loops := true, apart := false, laid := [("dispatcher/scan.words", laid_dispatcher_scan_words), ("dispatcher/tree.args", laid_dispatcher_tree_args), ("dispatcher/tree.plain", laid_dispatcher_tree_plain)] }
def LimitsEnoughSaid : Prop := limitsEnoughRow.holds Tryz.pinned (OpenSpec.ofChange limitsEnoughSpec)

/-- ITS FALSE NEIGHBOUR: 'it returns false'. Refute it at one input. -/
def limitsEnoughWrong : ChangeSpec := { name := "limitsEnough", fn := fun _ => fun
  | [d1, d2] => { results := [.lit (.bool false)], args := [d1, d2] }
  | _ => none }
def LimitsEnoughWrongFalsely : Prop := limitsEnoughRow.holds Tryz.pinned (OpenSpec.ofChange limitsEnoughWrong)

/-- 'dispatcherlaw30.LimitsOne': WHATEVER THE INPUT: true; the input reads as it did. -/
def limitsOneSpec : ChangeSpec := { name := "limitsOne", fn := fun _ => fun
  | [d1, d2] => { results := [.lit (.bool true)], args := [d1, d2] }
  | _ => none }
def limitsOneRow : OpenClaim := { program := "ytpkfbaagpjdifaagreatdoor", sum := "2753ac4975fbccebbeb8fbc37f16dc9d76936247ce37df3999a43104851ed7bb", func := "dispatcher/dispatcherlaw30.LimitsOne", spec := "limitsOne", unfollowed := true, recurses := true, named := ["dispatcher/scan.words", "dispatcher/tree.args", "dispatcher/tree.plain"], loops := true, apart := false, laid := [("dispatcher/scan.words", laid_dispatcher_scan_words), ("dispatcher/tree.args", laid_dispatcher_tree_args), ("dispatcher/tree.plain", laid_dispatcher_tree_plain)] }
def LimitsOneSaid : Prop := limitsOneRow.holds Tryz.pinned (OpenSpec.ofChange limitsOneSpec)

/-- ITS FALSE NEIGHBOUR: 'it returns false'. Refute it at one input. -/
def limitsOneWrong : ChangeSpec := { name := "limitsOne", fn := fun _ => fun
  | [d1, d2] => { results := [.lit (.bool false)], args := [d1, d2] }
  | _ => none }
def LimitsOneWrongFalsely : Prop := limitsOneRow.holds Tryz.pinned (OpenSpec.ofChange limitsOneWrong)

/- THE SECOND FORM. 'bulk': how many values and letters a reading holds, each counted each time it is reached (what is shared counts as often as it is met; a slice's spare places count too). A statement '..UptoSaid' is the law's where the arguments, and the package variables that the reading takes, are together of bulk at most 1048576: NARROWER than '..Said'. Prove '..Said' where nothing that the law and all that it calls make is longer than what came in: it says more and counts as full. Else prove '..UptoSaid'. A law counts once. -/
mutual
def uptoBulk {H : Type} : DataW H → Nat
  | .lit (.string bytes) => bytes.length + 1
  | .lit _ => 1
  | .nil => 1
  | .ptr d => uptoBulk d + 1
  | .slice elems spare => uptoBulkAll elems + uptoBulkAll spare + 1
  | .agg parts => uptoBulkAll parts + 1
  | .iface _ d => uptoBulk d + 1
  | .map entries => uptoBulkEntries entries + 1
  | .held _ => 1
def uptoBulkAll {H : Type} : List (DataW H) → Nat
  | [] => 0
  | d :: r => uptoBulk d + uptoBulkAll r
def uptoBulkEntries {H : Type} : List (Lit × DataW H) → Nat
  | [] => 0
  | x :: r => uptoBulkEntry x + uptoBulkEntries r
def uptoBulkEntry {H : Type} : Lit × DataW H → Nat
  | (.string bytes, d) => bytes.length + uptoBulk d + 1
  | (_, d) => uptoBulk d + 1
 end
def uptoSmall : (H : Type) → List (DataW H) → Bool := fun _ ds => decide (uptoBulkAll ds ≤ 1048576)
def OpenSpec.upto (s : _root_.Go.ChangeSpec) : _root_.Go.OpenSpec := { _root_.Go.OpenSpec.ofChange s with cond := some uptoSmall }

/-- 'dispatcherlaw30.LimitsTell', WHERE WHAT IT READS IS OF BULK AT MOST 1048576: true; the input reads as it did. -/
def limitsTellUptoRow : OpenClaim := { program := "ytpkfbaagpjdifaagreatdoor", sum := "2753ac4975fbccebbeb8fbc37f16dc9d76936247ce37df3999a43104851ed7bb", func := "dispatcher/dispatcherlaw30.LimitsTell", spec := "limitsTell", unfollowed := true, recurses := true, named := ["dispatcher/scan.words", "dispatcher/tree.args", "dispatcher/tree.plain"], loops := true, apart := false, laid := [("dispatcher/scan.words", laid_dispatcher_scan_words), ("dispatcher/tree.args", laid_dispatcher_tree_args), ("dispatcher/tree.plain", laid_dispatcher_tree_plain)], narrowed := true }
def LimitsTellUptoSaid : Prop := limitsTellUptoRow.holds Tryz.pinned (OpenSpec.upto limitsTellSpec)

/-- 'dispatcherlaw30.LimitsEnough', WHERE WHAT IT READS IS OF BULK AT MOST 1048576: true; the input reads as it did. -/
def limitsEnoughUptoRow : OpenClaim := { program := "ytpkfbaagpjdifaagreatdoor", sum := "2753ac4975fbccebbeb8fbc37f16dc9d76936247ce37df3999a43104851ed7bb", func := "dispatcher/dispatcherlaw30.LimitsEnough", spec := "limitsEnough", unfollowed := true, recurses := true, named := ["dispatcher/scan.words", "dispatcher/tree.args", "dispatcher/tree.plain"], loops := true, apart := false, laid := [("dispatcher/scan.words", laid_dispatcher_scan_words), ("dispatcher/tree.args", laid_dispatcher_tree_args), ("dispatcher/tree.plain", laid_dispatcher_tree_plain)], narrowed := true }
def LimitsEnoughUptoSaid : Prop := limitsEnoughUptoRow.holds Tryz.pinned (OpenSpec.upto limitsEnoughSpec)

/-- 'dispatcherlaw30.LimitsOne', WHERE WHAT IT READS IS OF BULK AT MOST 1048576: true; the input reads as it did. -/
def limitsOneUptoRow : OpenClaim := { program := "ytpkfbaagpjdifaagreatdoor", sum := "2753ac4975fbccebbeb8fbc37f16dc9d76936247ce37df3999a43104851ed7bb", func := "dispatcher/dispatcherlaw30.LimitsOne", spec := "limitsOne", unfollowed := true, recurses := true, named := ["dispatcher/scan.words", "dispatcher/tree.args", "dispatcher/tree.plain"], loops := true, apart := false, laid := [("dispatcher/scan.words", laid_dispatcher_scan_words), ("dispatcher/tree.args", laid_dispatcher_tree_args), ("dispatcher/tree.plain", laid_dispatcher_tree_plain)], narrowed := true }
def LimitsOneUptoSaid : Prop := limitsOneUptoRow.holds Tryz.pinned (OpenSpec.upto limitsOneSpec)

end Rows
end Go.Proofs.YtpkfbaagpjdifaaGreatDoor
