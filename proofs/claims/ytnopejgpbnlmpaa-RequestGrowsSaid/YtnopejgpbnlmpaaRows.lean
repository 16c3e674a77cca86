/-
  No cell of these rows narrows 'for every input' (looked for: loops, veiled, ifaces, maps, wideKeys, modest, calm, conditions, laid).
  DERIVED. THE GIVEN ROWS OF THIS SEAT. 3 by the template 'for every input the law returns true; each argument reads behind the call as it read before'; 0 by the template 'total and deterministic' (their statements: YtnopejgpbnlmpaaTotals.lean).
  GIVEN WITH THE SEED: the statements are not yours to turn. If you find one false, say at which input.
  Laid BY PROGRAM, IN A SANDBOX (cutbox-rows.mjs): the forced cells as the released guide's own fill.sh prints them over the translation e5f9a056e049f9ae… (all of the seat's roots in one cut). By AI agents, Wed Nov 11 2026. No macro, syntax, notation, axiom, sorry.
-/
import Derived.Test.YtnopejgpbnlmpaaChecked
import GoSem.Claim
import GoSem.ClaimJoined
import GoSem.ClaimMapViews
import Derived.JoinedTies
import Derived.KernelRfl
namespace Go.Proofs.Ytnopejgpbnlmpaa
/- THE CELL 'sum', in the pinned program and in every row, IS THE sha256 OF THE DUMP (.gsa) THAT YtnopejgpbnlmpaaProg.lean LOADS. Nothing in Lean hashes anything: it is a label: what it is worth is what the hold of that sum in a sandbox is worth. -/
noncomputable def Try.pinned : Pinned := { name := "ytnopejgpbnlmpaa", sum := "e5f9a056e049f9ae219a7cc621e1a7d3216b47120da1c6777caf3b2ef99821ed", checked := Try.checked }
namespace Rows
def none {H : Type} : Left H := { results := [], args := [] }

/-- 'dispatcherlaw12.RequestLeft': WHATEVER THE INPUT: true; the input reads as it did. -/
def requestLeftSpec : ChangeSpec := { name := "requestLeft", fn := fun _ => fun
  | [d] => { results := [.lit (.bool true)], args := [d] }
  | _ => none }
def requestLeftRow : OpenClaim := { program := "ytnopejgpbnlmpaa", sum := "e5f9a056e049f9ae219a7cc621e1a7d3216b47120da1c6777caf3b2ef99821ed", func := "dispatcher/dispatcherlaw12.RequestLeft", spec := "requestLeft", unfollowed := true, recurses := true, apart := false }
def RequestLeftSaid : Prop := requestLeftRow.holds Try.pinned (OpenSpec.ofChange requestLeftSpec)

/-- ITS FALSE NEIGHBOUR: 'it returns false'. Refute it at one input. -/
def requestLeftWrong : ChangeSpec := { name := "requestLeft", fn := fun _ => fun
  | [d] => { results := [.lit (.bool false)], args := [d] }
  | _ => none }
def RequestLeftWrongFalsely : Prop := requestLeftRow.holds Try.pinned (OpenSpec.ofChange requestLeftWrong)

/-- 'dispatcherlaw12.RequestGrows': WHATEVER THE INPUT: true; the input reads as it did. -/
def requestGrowsSpec : ChangeSpec := { name := "requestGrows", fn := fun _ => fun
  | [d1, d2] => { results := [.lit (.bool true)], args := [d1, d2] }
  | _ => none }
def requestGrowsRow : OpenClaim := { program := "ytnopejgpbnlmpaa", sum := "e5f9a056e049f9ae219a7cc621e1a7d3216b47120da1c6777caf3b2ef99821ed", func := "dispatcher/dispatcherlaw12.RequestGrows", spec := "requestGrows", unfollowed := true, recurses := true, apart := false }
def RequestGrowsSaid : Prop := requestGrowsRow.holds Try.pinned (OpenSpec.ofChange requestGrowsSpec)

/-- ITS FALSE NEIGHBOUR: 'it returns false'. Refute it at one input. -/
def requestGrowsWrong : ChangeSpec := { name := "requestGrows", fn := fun _ => fun
  | [d1, d2] => { results := [.lit (.bool false)], args := [d1, d2] }
  | _ => none }
def RequestGrowsWrongFalsely : Prop := requestGrowsRow.holds Try.pinned (OpenSpec.ofChange requestGrowsWrong)

/-- 'dispatcherlaw12.RequestNil': WHATEVER THE INPUT: true; the input reads as it did. -/
def requestNilSpec : ChangeSpec := { name := "requestNil", fn := fun _ => fun
  | [d] => { results := [.lit (.bool true)], args := [d] }
  | _ => none }
def requestNilRow : OpenClaim := { program := "ytnopejgpbnlmpaa", sum := "e5f9a056e049f9ae219a7cc621e1a7d3216b47120da1c6777caf3b2ef99821ed", func := "dispatcher/dispatcherlaw12.RequestNil", spec := "requestNil", unfollowed := true, recurses := true, apart := false }
def RequestNilSaid : Prop := requestNilRow.holds Try.pinned (OpenSpec.ofChange requestNilSpec)

/-- ITS FALSE NEIGHBOUR: 'it returns false'. Refute it at one input. -/
def requestNilWrong : ChangeSpec := { name := "requestNil", fn := fun _ => fun
  | [d] => { results := [.lit (.bool false)], args := [d] }
  | _ => none }
def RequestNilWrongFalsely : Prop := requestNilRow.holds Try.pinned (OpenSpec.ofChange requestNilWrong)

/- THE SECOND FORM. 'bulk': how many values and letters a reading holds, each counted each time it is reached (what is shared counts as often as it is met; a slice's spare places count too). A statement '..UptoSaid' is the law's where the arguments, and the package variables that the reading takes, are together of bulk at most 1048576: NARROWER than '..Said'. Prove '..Said' where nothing that the law and all that it calls make is longer than what came in: it says more and counts as full. Else prove '..UptoSaid'. A law counts once. -/
mutual
def uptoBulk {H : Type} : DataW H → Nat
  | .lit (.string bytes) => bytes.length + 1
  | .lit _ => 1
  | .nil => 1
  | .ptr d => uptoBulk d + 1
  | .slice elems spare => uptoBulkAll elems + uptoBulkAll spare + 1
  | .agg parts => uptoBulkAll parts + 1
  | .iface _ d => uptoBulk d + 1
  | .map entries => uptoBulkEntries entries + 1
  | .held _ => 1
def uptoBulkAll {H : Type} : List (DataW H) → Nat
  | [] => 0
  | d :: r => uptoBulk d + uptoBulkAll r
def uptoBulkEntries {H : Type} : List (Lit × DataW H) → Nat
  | [] => 0
  | x :: r => uptoBulkEntry x + uptoBulkEntries r
def uptoBulkEntry {H : Type} : Lit × DataW H → Nat
  | (.string bytes, d) => bytes.length + uptoBulk d + 1
  | (_, d) => uptoBulk d + 1
 end
def uptoSmall : (H : Type) → List (DataW H) → Bool := fun _ ds => decide (uptoBulkAll ds ≤ 1048576)
def OpenSpec.upto (s : _root_.Go.ChangeSpec) : _root_.Go.OpenSpec := { _root_.Go.OpenSpec.ofChange s with cond := some uptoSmall }

/-- 'dispatcherlaw12.RequestLeft', WHERE WHAT IT READS IS OF BULK AT MOST 1048576: true; the input reads as it did. -/
def requestLeftUptoRow : OpenClaim := { program := "ytnopejgpbnlmpaa", sum := "e5f9a056e049f9ae219a7cc621e1a7d3216b47120da1c6777caf3b2ef99821ed", func := "dispatcher/dispatcherlaw12.RequestLeft", spec := "requestLeft", unfollowed := true, recurses := true, apart := false, narrowed := true }
def RequestLeftUptoSaid : Prop := requestLeftUptoRow.holds Try.pinned (OpenSpec.upto requestLeftSpec)

/-- 'dispatcherlaw12.RequestGrows', WHERE WHAT IT READS IS OF BULK AT MOST 1048576: true; the input reads as it did. -/
def requestGrowsUptoRow : OpenClaim := { program := "ytnopejgpbnlmpaa", sum := "e5f9a056e049f9ae219a7cc621e1a7d3216b47120da1c6777caf3b2ef99821ed", func := "dispatcher/dispatcherlaw12.RequestGrows", spec := "requestGrows", unfollowed := true, recurses := true, apart := false, narrowed := true }
def RequestGrowsUptoSaid : Prop := requestGrowsUptoRow.holds Try.pinned (OpenSpec.upto requestGrowsSpec)

/-- 'dispatcherlaw12.RequestNil', WHERE WHAT IT READS IS OF BULK AT MOST 1048576: true; the input reads as it did. -/
def requestNilUptoRow : OpenClaim := { program := "ytnopejgpbnlmpaa", sum := "e5f9a056e049f9ae219a7cc621e1a7d3216b47120da1c6777caf3b2ef99821ed", func := "dispatcher/dispatcherlaw12.RequestNil", spec := "requestNil", unfollowed := true, recurses := true, apart := false, narrowed := true }
def RequestNilUptoSaid : Prop := requestNilUptoRow.holds Try.pinned (OpenSpec.upto requestNilSpec)

end Rows
end Go.Proofs.Ytnopejgpbnlmpaa
