/-
  No cell of these rows narrows 'for every input' (looked for: loops, veiled, ifaces, maps, wideKeys, modest, calm, conditions, laid).
  DERIVED. THE GIVEN ROWS OF THIS SEAT. 7 by the template 'for every input the law returns true; each argument reads behind the call as it read before'; 0 by the template 'total and deterministic' (their statements: YtmnkedgmpbcicaaTotals.lean).
  GIVEN WITH THE SEED: the statements are not yours to turn. If you find one false, say at which input.
  Laid BY PROGRAM, IN A SANDBOX (cutbox-rows.mjs): the forced cells as the released guide's own fill.sh prints them over the translation 3186df89c2a4ce47… (all of the seat's roots in one cut). By AI agents, Wed Nov 11 2026. No macro, syntax, notation, axiom, sorry.
-/
import Derived.Test.YtmnkedgmpbcicaaChecked
import GoSem.Claim
import GoSem.ClaimJoined
import GoSem.ClaimMapViews
import Derived.JoinedTies
import Derived.KernelRfl
namespace Go.Proofs.Ytmnkedgmpbcicaa
/- THE CELL 'sum', in the pinned program and in every row, IS THE sha256 OF THE DUMP (.gsa) THAT YtmnkedgmpbcicaaProg.lean LOADS. Nothing in Lean hashes anything: it is a label: what it is worth is what the hold of that sum in a sandbox is worth. -/
noncomputable def Try.pinned : Pinned := { name := "ytmnkedgmpbcicaa", sum := "3186df89c2a4ce470d1fdc2fba2d1fc9045d94629435923f5e63ce34128e10bb", checked := Try.checked }
namespace Rows
def none {H : Type} : Left H := { results := [], args := [] }

/-- 'dispatcherlaw14.PostedProbes': WHATEVER THE INPUT: true; the input reads as it did. -/
def postedProbesSpec : ChangeSpec := { name := "postedProbes", fn := fun _ => fun
  | [d1, d2] => { results := [.lit (.bool true)], args := [d1, d2] }
  | _ => none }
def postedProbesRow : OpenClaim := { program := "ytmnkedgmpbcicaa", sum := "3186df89c2a4ce470d1fdc2fba2d1fc9045d94629435923f5e63ce34128e10bb", func := "dispatcher/dispatcherlaw14.PostedProbes", spec := "postedProbes", unfollowed := true, recurses := true, plainKeys := false, apart := false }
def PostedProbesSaid : Prop := postedProbesRow.holds Try.pinned (OpenSpec.ofChange postedProbesSpec)

/-- ITS FALSE NEIGHBOUR: 'it returns false'. Refute it at one input. -/
def postedProbesWrong : ChangeSpec := { name := "postedProbes", fn := fun _ => fun
  | [d1, d2] => { results := [.lit (.bool false)], args := [d1, d2] }
  | _ => none }
def PostedProbesWrongFalsely : Prop := postedProbesRow.holds Try.pinned (OpenSpec.ofChange postedProbesWrong)

/-- 'dispatcherlaw14.PostedOne': WHATEVER THE INPUT: true; the input reads as it did. -/
def postedOneSpec : ChangeSpec := { name := "postedOne", fn := fun _ => fun
  | [d1, d2] => { results := [.lit (.bool true)], args := [d1, d2] }
  | _ => none }
def postedOneRow : OpenClaim := { program := "ytmnkedgmpbcicaa", sum := "3186df89c2a4ce470d1fdc2fba2d1fc9045d94629435923f5e63ce34128e10bb", func := "dispatcher/dispatcherlaw14.PostedOne", spec := "postedOne", unfollowed := true, recurses := true, plainKeys := false, apart := false }
def PostedOneSaid : Prop := postedOneRow.holds Try.pinned (OpenSpec.ofChange postedOneSpec)

/-- ITS FALSE NEIGHBOUR: 'it returns false'. Refute it at one input. -/
def postedOneWrong : ChangeSpec := { name := "postedOne", fn := fun _ => fun
  | [d1, d2] => { results := [.lit (.bool false)], args := [d1, d2] }
  | _ => none }
def PostedOneWrongFalsely : Prop := postedOneRow.holds Try.pinned (OpenSpec.ofChange postedOneWrong)

/-- 'dispatcherlaw14.PostedGrows': WHATEVER THE INPUT: true; the input reads as it did. -/
def postedGrowsSpec : ChangeSpec := { name := "postedGrows", fn := fun _ => fun
  | [d1, d2, d3] => { results := [.lit (.bool true)], args := [d1, d2, d3] }
  | _ => none }
def postedGrowsRow : OpenClaim := { program := "ytmnkedgmpbcicaa", sum := "3186df89c2a4ce470d1fdc2fba2d1fc9045d94629435923f5e63ce34128e10bb", func := "dispatcher/dispatcherlaw14.PostedGrows", spec := "postedGrows", unfollowed := true, recurses := true, plainKeys := false, apart := false }
def PostedGrowsSaid : Prop := postedGrowsRow.holds Try.pinned (OpenSpec.ofChange postedGrowsSpec)

/-- ITS FALSE NEIGHBOUR: 'it returns false'. Refute it at one input. -/
def postedGrowsWrong : ChangeSpec := { name := "postedGrows", fn := fun _ => fun
  | [d1, d2, d3] => { results := [.lit (.bool false)], args := [d1, d2, d3] }
  | _ => none }
def PostedGrowsWrongFalsely : Prop := postedGrowsRow.holds Try.pinned (OpenSpec.ofChange postedGrowsWrong)

/-- 'dispatcherlaw14.PostedOvertakes': WHATEVER THE INPUT: true; the input reads as it did. -/
def postedOvertakesSpec : ChangeSpec := { name := "postedOvertakes", fn := fun _ => fun
  | [d] => { results := [.lit (.bool true)], args := [d] }
  | _ => none }
def postedOvertakesRow : OpenClaim := { program := "ytmnkedgmpbcicaa", sum := "3186df89c2a4ce470d1fdc2fba2d1fc9045d94629435923f5e63ce34128e10bb", func := "dispatcher/dispatcherlaw14.PostedOvertakes", spec := "postedOvertakes", unfollowed := true, recurses := true, plainKeys := false, apart := false }
def PostedOvertakesSaid : Prop := postedOvertakesRow.holds Try.pinned (OpenSpec.ofChange postedOvertakesSpec)

/-- ITS FALSE NEIGHBOUR: 'it returns false'. Refute it at one input. -/
def postedOvertakesWrong : ChangeSpec := { name := "postedOvertakes", fn := fun _ => fun
  | [d] => { results := [.lit (.bool false)], args := [d] }
  | _ => none }
def PostedOvertakesWrongFalsely : Prop := postedOvertakesRow.holds Try.pinned (OpenSpec.ofChange postedOvertakesWrong)

/-- 'dispatcherlaw14.PostedNil': WHATEVER THE INPUT: true; the input reads as it did. -/
def postedNilSpec : ChangeSpec := { name := "postedNil", fn := fun _ => fun
  | [d] => { results := [.lit (.bool true)], args := [d] }
  | _ => none }
def postedNilRow : OpenClaim := { program := "ytmnkedgmpbcicaa", sum := "3186df89c2a4ce470d1fdc2fba2d1fc9045d94629435923f5e63ce34128e10bb", func := "dispatcher/dispatcherlaw14.PostedNil", spec := "postedNil", unfollowed := true, recurses := true, plainKeys := false, apart := false }
def PostedNilSaid : Prop := postedNilRow.holds Try.pinned (OpenSpec.ofChange postedNilSpec)

/-- ITS FALSE NEIGHBOUR: 'it returns false'. Refute it at one input. -/
def postedNilWrong : ChangeSpec := { name := "postedNil", fn := fun _ => fun
  | [d] => { results := [.lit (.bool false)], args := [d] }
  | _ => none }
def PostedNilWrongFalsely : Prop := postedNilRow.holds Try.pinned (OpenSpec.ofChange postedNilWrong)

/-- 'dispatcherlaw14.PostedMay': WHATEVER THE INPUT: true; the input reads as it did. -/
def postedMaySpec : ChangeSpec := { name := "postedMay", fn := fun _ => fun
  | [d1, d2] => { results := [.lit (.bool true)], args := [d1, d2] }
  | _ => none }
def postedMayRow : OpenClaim := { program := "ytmnkedgmpbcicaa", sum := "3186df89c2a4ce470d1fdc2fba2d1fc9045d94629435923f5e63ce34128e10bb", func := "dispatcher/dispatcherlaw14.PostedMay", spec := "postedMay", unfollowed := true, recurses := true, plainKeys := false, apart := false }
def PostedMaySaid : Prop := postedMayRow.holds Try.pinned (OpenSpec.ofChange postedMaySpec)

/-- ITS FALSE NEIGHBOUR: 'it returns false'. Refute it at one input. -/
def postedMayWrong : ChangeSpec := { name := "postedMay", fn := fun _ => fun
  | [d1, d2] => { results := [.lit (.bool false)], args := [d1, d2] }
  | _ => none }
def PostedMayWrongFalsely : Prop := postedMayRow.holds Try.pinned (OpenSpec.ofChange postedMayWrong)

/-- 'dispatcherlaw14.PostedPlays': WHATEVER THE INPUT: true; the input reads as it did. -/
def postedPlaysSpec : ChangeSpec := { name := "postedPlays", fn := fun _ => fun
  | [d] => { results := [.lit (.bool true)], args := [d] }
  | _ => none }
def postedPlaysRow : OpenClaim := { program := "ytmnkedgmpbcicaa", sum := "3186df89c2a4ce470d1fdc2fba2d1fc9045d94629435923f5e63ce34128e10bb", func := "dispatcher/dispatcherlaw14.PostedPlays", spec := "postedPlays", unfollowed := true, recurses := true, plainKeys := false, apart := false }
def PostedPlaysSaid : Prop := postedPlaysRow.holds Try.pinned (OpenSpec.ofChange postedPlaysSpec)

/-- ITS FALSE NEIGHBOUR: 'it returns false'. Refute it at one input. -/
def postedPlaysWrong : ChangeSpec := { name := "postedPlays", fn := fun _ => fun
  | [d] => { results := [.lit (.bool false)], args := [d] }
  | _ => none }
def PostedPlaysWrongFalsely : Prop := postedPlaysRow.holds Try.pinned (OpenSpec.ofChange postedPlaysWrong)

/- THE SECOND FORM. 'bulk': how many values and letters a reading holds, each counted each time it is reached (what is shared counts as often as it is met; a slice's spare places count too). A statement '..UptoSaid' is the law's where the arguments, and the package variables that the reading takes, are together of bulk at most 1048576: NARROWER than '..Said'. Prove '..Said' where nothing that the law and all that it calls make is longer than what came in: it says more and counts as full. Else prove '..UptoSaid'. A law counts once. -/
mutual
def uptoBulk {H : Type} : DataW H → Nat
  | .lit (.string bytes) => bytes.length + 1
  | .lit _ => 1
  | .nil => 1
  | .ptr d => uptoBulk d + 1
  | .slice elems spare => uptoBulkAll elems + uptoBulkAll spare + 1
  | .agg parts => uptoBulkAll parts + 1
  | .iface _ d => uptoBulk d + 1
  | .map entries => uptoBulkEntries entries + 1
  | .held _ => 1
def uptoBulkAll {H : Type} : List (DataW H) → Nat
  | [] => 0
  | d :: r => uptoBulk d + uptoBulkAll r
def uptoBulkEntries {H : Type} : List (Lit × DataW H) → Nat
  | [] => 0
  | x :: r => uptoBulkEntry x + uptoBulkEntries r
def uptoBulkEntry {H : Type} : Lit × DataW H → Nat
  | (.string bytes, d) => bytes.length + uptoBulk d + 1
  | (_, d) => uptoBulk d + 1
 end
def uptoSmall : (H : Type) → List (DataW H) → Bool := fun _ ds => decide (uptoBulkAll ds ≤ 1048576)
def OpenSpec.upto (s : _root_.Go.ChangeSpec) : _root_.Go.OpenSpec := { _root_.Go.OpenSpec.ofChange s with cond := some uptoSmall }

/-- 'dispatcherlaw14.PostedProbes', WHERE WHAT IT READS IS OF BULK AT MOST 1048576: true; the input reads as it did. -/
def postedProbesUptoRow : OpenClaim := { program := "ytmnkedgmpbcicaa", sum := "3186df89c2a4ce470d1fdc2fba2d1fc9045d94629435923f5e63ce34128e10bb", func := "dispatcher/dispatcherlaw14.PostedProbes", spec := "postedProbes", unfollowed := true, recurses := true, plainKeys := false, apart := false, narrowed := true }
def PostedProbesUptoSaid : Prop := postedProbesUptoRow.holds Try.pinned (OpenSpec.upto postedProbesSpec)

/-- 'dispatcherlaw14.PostedOne', WHERE WHAT IT READS IS OF BULK AT MOST 1048576: true; the input reads as it did. -/
def postedOneUptoRow : OpenClaim := { program := "ytmnkedgmpbcicaa", sum := "3186df89c2a4ce470d1fdc2fba2d1fc9045d94629435923f5e63ce34128e10bb", func := "dispatcher/dispatcherlaw14.PostedOne", spec := "postedOne", unfollowed := true, recurses := true, plainKeys := false, apart := false, narrowed := true }
def PostedOneUptoSaid : Prop := postedOneUptoRow.holds Try.pinned (OpenSpec.upto postedOneSpec)

/-- 'dispatcherlaw14.PostedGrows', WHERE WHAT IT READS IS OF BULK AT MOST 1048576: true; the input reads as it did. -/
def postedGrowsUptoRow : OpenClaim := { program := "ytmnkedgmpbcicaa", sum := "3186df89c2a4ce470d1fdc2fba2d1fc9045d94629435923f5e63ce34128e10bb", func := "dispatcher/dispatcherlaw14.PostedGrows", spec := "postedGrows", unfollowed := true, recurses := true, plainKeys := false, apart := false, narrowed := true }
def PostedGrowsUptoSaid : Prop := postedGrowsUptoRow.holds Try.pinned (OpenSpec.upto postedGrowsSpec)

/-- 'dispatcherlaw14.PostedOvertakes', WHERE WHAT IT READS IS OF BULK AT MOST 1048576: true; the input reads as it did. -/
def postedOvertakesUptoRow : OpenClaim := { program := "ytmnkedgmpbcicaa", sum := "3186df89c2a4ce470d1fdc2fba2d1fc9045d94629435923f5e63ce34128e10bb", func := "dispatcher/dispatcherlaw14.PostedOvertakes", spec := "postedOvertakes", unfollowed := true, recurses := true, plainKeys := false, apart := false, narrowed := true }
def PostedOvertakesUptoSaid : Prop := postedOvertakesUptoRow.holds Try.pinned (OpenSpec.upto postedOvertakesSpec)

/-- 'dispatcherlaw14.PostedNil', WHERE WHAT IT READS IS OF BULK AT MOST 1048576: true; the input reads as it did. -/
def postedNilUptoRow : OpenClaim := { program := "ytmnkedgmpbcicaa", sum := "3186df89c2a4ce470d1fdc2fba2d1fc9045d94629435923f5e63ce34128e10bb", func := "dispatcher/dispatcherlaw14.PostedNil", spec := "postedNil", unfollowed := true, recurses := true, plainKeys := false, apart := false, narrowed := true }
def PostedNilUptoSaid : Prop := postedNilUptoRow.holds Try.pinned (OpenSpec.upto postedNilSpec)

/-- 'dispatcherlaw14.PostedMay', WHERE WHAT IT READS IS OF BULK AT MOST 1048576: true; the input reads as it did. -/
def postedMayUptoRow : OpenClaim := { program := "ytmnkedgmpbcicaa", sum := "3186df89c2a4ce470d1fdc2fba2d1fc9045d94629435923f5e63ce34128e10bb", func := "dispatcher/dispatcherlaw14.PostedMay", spec := "postedMay", unfollowed := true, recurses := true, plainKeys := false, apart := false, narrowed := true }
def PostedMayUptoSaid : Prop := postedMayUptoRow.holds Try.pinned (OpenSpec.upto postedMaySpec)

/-- 'dispatcherlaw14.PostedPlays', WHERE WHAT IT READS IS OF BULK AT MOST 1048576: true; the input reads as it did. -/
def postedPlaysUptoRow : OpenClaim := { program := "ytmnkedgmpbcicaa", sum := "3186df89c2a4ce470d1fdc2fba2d1fc9045d94629435923f5e63ce34128e10bb", func := "dispatcher/dispatcherlaw14.PostedPlays", spec := "postedPlays", unfollowed := true, recurses := true, plainKeys := false, apart := false, narrowed := true }
def PostedPlaysUptoSaid : Prop := postedPlaysUptoRow.holds Try.pinned (OpenSpec.upto postedPlaysSpec)

end Rows
end Go.Proofs.Ytmnkedgmpbcicaa
