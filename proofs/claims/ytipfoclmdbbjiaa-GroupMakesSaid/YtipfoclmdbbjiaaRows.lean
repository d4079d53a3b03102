/-
  No cell of these rows narrows 'for every input' (looked for: loops, veiled, ifaces, maps, wideKeys, modest, calm, conditions, laid).
  DERIVED. THE GIVEN ROWS OF THIS SEAT. 4 by the template 'for every input the law returns true; each argument reads behind the call as it read before'; 0 by the template 'total and deterministic' (their statements: YtipfoclmdbbjiaaTotals.lean).
  GIVEN WITH THE SEED: the statements are not yours to turn. If you find one false, say at which input.
  Laid BY PROGRAM, IN A SANDBOX (cutbox-rows.mjs): the forced cells as the released guide's own fill.sh prints them over the translation 6e9f5cddcf78b4f9… (all of the seat's roots in one cut). By AI agents, Wed Nov 11 2026. No macro, syntax, notation, axiom, sorry.
-/
import Derived.Test.YtipfoclmdbbjiaaChecked
import GoSem.Claim
import GoSem.ClaimJoined
import GoSem.ClaimMapViews
import Derived.JoinedTies
import Derived.KernelRfl
namespace Go.Proofs.Ytipfoclmdbbjiaa
/- THE CELL 'sum', in the pinned program and in every row, IS THE sha256 OF THE DUMP (.gsa) THAT YtipfoclmdbbjiaaProg.lean LOADS. Nothing in Lean hashes anything: it is a label: what it is worth is what the hold of that sum in a sandbox is worth. -/
noncomputable def Try.pinned : Pinned := { name := "ytipfoclmdbbjiaa", sum := "6e9f5cddcf78b4f94e47f4750e99c667be646d5d6703525890618c1ffa73ff29", checked := Try.checked }
namespace Rows
def none {H : Type} : Left H := { results := [], args := [] }

/-- 'backstaylaw17.GroupBuilds': WHATEVER THE INPUT: true; the input reads as it did. -/
def groupBuildsSpec : ChangeSpec := { name := "groupBuilds", fn := fun _ => fun
  | [d1, d2] => { results := [.lit (.bool true)], args := [d1, d2] }
  | _ => none }
def groupBuildsRow : OpenClaim := { program := "ytipfoclmdbbjiaa", sum := "6e9f5cddcf78b4f94e47f4750e99c667be646d5d6703525890618c1ffa73ff29", func := "backstay/backstaylaw17.GroupBuilds", spec := "groupBuilds", apart := false }
def GroupBuildsSaid : Prop := groupBuildsRow.holds Try.pinned (OpenSpec.ofChange groupBuildsSpec)

/-- ITS FALSE NEIGHBOUR: 'it returns false'. Refute it at one input. -/
def groupBuildsWrong : ChangeSpec := { name := "groupBuilds", fn := fun _ => fun
  | [d1, d2] => { results := [.lit (.bool false)], args := [d1, d2] }
  | _ => none }
def GroupBuildsWrongFalsely : Prop := groupBuildsRow.holds Try.pinned (OpenSpec.ofChange groupBuildsWrong)

/-- 'backstaylaw17.GroupInputs': WHATEVER THE INPUT: true; the input reads as it did. -/
def groupInputsSpec : ChangeSpec := { name := "groupInputs", fn := fun _ => fun
  | [d] => { results := [.lit (.bool true)], args := [d] }
  | _ => none }
def groupInputsRow : OpenClaim := { program := "ytipfoclmdbbjiaa", sum := "6e9f5cddcf78b4f94e47f4750e99c667be646d5d6703525890618c1ffa73ff29", func := "backstay/backstaylaw17.GroupInputs", spec := "groupInputs", apart := false }
def GroupInputsSaid : Prop := groupInputsRow.holds Try.pinned (OpenSpec.ofChange groupInputsSpec)

/-- ITS FALSE NEIGHBOUR: 'it returns false'. Refute it at one input. -/
def groupInputsWrong : ChangeSpec := { name := "groupInputs", fn := fun _ => fun
  | [d] => { results := [.lit (.bool false)], args := [d] }
  | _ => none }
def GroupInputsWrongFalsely : Prop := groupInputsRow.holds Try.pinned (OpenSpec.ofChange groupInputsWrong)

/-- 'backstaylaw17.GroupMakes': WHATEVER THE INPUT: true; the input reads as it did. -/
def groupMakesSpec : ChangeSpec := { name := "groupMakes", fn := fun _ => fun
  | [d1, d2, d3] => { results := [.lit (.bool true)], args := [d1, d2, d3] }
  | _ => none }
def groupMakesRow : OpenClaim := { program := "ytipfoclmdbbjiaa", sum := "6e9f5cddcf78b4f94e47f4750e99c667be646d5d6703525890618c1ffa73ff29", func := "backstay/backstaylaw17.GroupMakes", spec := "groupMakes", unfollowed := true, recurses := true, apart := false }
def GroupMakesSaid : Prop := groupMakesRow.holds Try.pinned (OpenSpec.ofChange groupMakesSpec)

/-- ITS FALSE NEIGHBOUR: 'it returns false'. Refute it at one input. -/
def groupMakesWrong : ChangeSpec := { name := "groupMakes", fn := fun _ => fun
  | [d1, d2, d3] => { results := [.lit (.bool false)], args := [d1, d2, d3] }
  | _ => none }
def GroupMakesWrongFalsely : Prop := groupMakesRow.holds Try.pinned (OpenSpec.ofChange groupMakesWrong)

/-- 'backstaylaw17.GroupAll': WHATEVER THE INPUT: true; the input reads as it did. -/
def groupAllSpec : ChangeSpec := { name := "groupAll", fn := fun _ => fun
  | [d1, d2] => { results := [.lit (.bool true)], args := [d1, d2] }
  | _ => none }
def groupAllRow : OpenClaim := { program := "ytipfoclmdbbjiaa", sum := "6e9f5cddcf78b4f94e47f4750e99c667be646d5d6703525890618c1ffa73ff29", func := "backstay/backstaylaw17.GroupAll", spec := "groupAll", apart := false }
def GroupAllSaid : Prop := groupAllRow.holds Try.pinned (OpenSpec.ofChange groupAllSpec)

/-- ITS FALSE NEIGHBOUR: 'it returns false'. Refute it at one input. -/
def groupAllWrong : ChangeSpec := { name := "groupAll", fn := fun _ => fun
  | [d1, d2] => { results := [.lit (.bool false)], args := [d1, d2] }
  | _ => none }
def GroupAllWrongFalsely : Prop := groupAllRow.holds Try.pinned (OpenSpec.ofChange groupAllWrong)

/- THE SECOND FORM. 'bulk': how many values and letters a reading holds, each counted each time it is reached (what is shared counts as often as it is met; a slice's spare places count too). A statement '..UptoSaid' is the law's where the arguments, and the package variables that the reading takes, are together of bulk at most 1048576: NARROWER than '..Said'. Prove '..Said' where nothing that the law and all that it calls make is longer than what came in: it says more and counts as full. Else prove '..UptoSaid'. A law counts once. -/
mutual
def uptoBulk {H : Type} : DataW H → Nat
  | .lit (.string bytes) => bytes.length + 1
  | .lit _ => 1
  | .nil => 1
  | .ptr d => uptoBulk d + 1
  | .slice elems spare => uptoBulkAll elems + uptoBulkAll spare + 1
  | .agg parts => uptoBulkAll parts + 1
  | .iface _ d => uptoBulk d + 1
  | .map entries => uptoBulkEntries entries + 1
  | .held _ => 1
def uptoBulkAll {H : Type} : List (DataW H) → Nat
  | [] => 0
  | d :: r => uptoBulk d + uptoBulkAll r
def uptoBulkEntries {H : Type} : List (Lit × DataW H) → Nat
  | [] => 0
  | x :: r => uptoBulkEntry x + uptoBulkEntries r
def uptoBulkEntry {H : Type} : Lit × DataW H → Nat
  | (.string bytes, d) => bytes.length + uptoBulk d + 1
  | (_, d) => uptoBulk d + 1
 end
def uptoSmall : (H : Type) → List (DataW H) → Bool := fun _ ds => decide (uptoBulkAll ds ≤ 1048576)
def OpenSpec.upto (s : _root_.Go.ChangeSpec) : _root_.Go.OpenSpec := { _root_.Go.OpenSpec.ofChange s with cond := some uptoSmall }

/-- 'backstaylaw17.GroupBuilds', WHERE WHAT IT READS IS OF BULK AT MOST 1048576: true; the input reads as it did. -/
def groupBuildsUptoRow : OpenClaim := { program := "ytipfoclmdbbjiaa", sum := "6e9f5cddcf78b4f94e47f4750e99c667be646d5d6703525890618c1ffa73ff29", func := "backstay/backstaylaw17.GroupBuilds", spec := "groupBuilds", apart := false, narrowed := true }
def GroupBuildsUptoSaid : Prop := groupBuildsUptoRow.holds Try.pinned (OpenSpec.upto groupBuildsSpec)

/-- 'backstaylaw17.GroupInputs', WHERE WHAT IT READS IS OF BULK AT MOST 1048576: true; the input reads as it did. -/
def groupInputsUptoRow : OpenClaim := { program := "ytipfoclmdbbjiaa", sum := "6e9f5cddcf78b4f94e47f4750e99c667be646d5d6703525890618c1ffa73ff29", func := "backstay/backstaylaw17.GroupInputs", spec := "groupInputs", apart := false, narrowed := true }
def GroupInputsUptoSaid : Prop := groupInputsUptoRow.holds Try.pinned (OpenSpec.upto groupInputsSpec)

/-- 'backstaylaw17.GroupMakes', WHERE WHAT IT READS IS OF BULK AT MOST 1048576: true; the input reads as it did. -/
def groupMakesUptoRow : OpenClaim := { program := "ytipfoclmdbbjiaa", sum := "6e9f5cddcf78b4f94e47f4750e99c667be646d5d6703525890618c1ffa73ff29", func := "backstay/backstaylaw17.GroupMakes", spec := "groupMakes", unfollowed := true, recurses := true, apart := false, narrowed := true }
def GroupMakesUptoSaid : Prop := groupMakesUptoRow.holds Try.pinned (OpenSpec.upto groupMakesSpec)

/-- 'backstaylaw17.GroupAll', WHERE WHAT IT READS IS OF BULK AT MOST 1048576: true; the input reads as it did. -/
def groupAllUptoRow : OpenClaim := { program := "ytipfoclmdbbjiaa", sum := "6e9f5cddcf78b4f94e47f4750e99c667be646d5d6703525890618c1ffa73ff29", func := "backstay/backstaylaw17.GroupAll", spec := "groupAll", apart := false, narrowed := true }
def GroupAllUptoSaid : Prop := groupAllUptoRow.holds Try.pinned (OpenSpec.upto groupAllSpec)

end Rows
end Go.Proofs.Ytipfoclmdbbjiaa
