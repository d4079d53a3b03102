/-
  No cell of these rows narrows 'for every input' (looked for: loops, veiled, ifaces, maps, wideKeys, modest, calm, conditions, laid).
  DERIVED. THE GIVEN ROWS OF THIS SEAT. 5 by the template 'for every input the law returns true; each argument reads behind the call as it read before'; 0 by the template 'total and deterministic' (their statements: YtangfbahljdbhaaTotals.lean).
  GIVEN WITH THE SEED: the statements are not yours to turn. If you find one false, say at which input.
  Laid BY PROGRAM, IN A SANDBOX (cutbox-rows.mjs): the forced cells as the released guide's own fill.sh prints them over the translation 62afd38aac883fe3… (all of the seat's roots in one cut). By AI agents, Wed Nov 11 2026. No macro, syntax, notation, axiom, sorry.
-/
import Derived.Test.YtangfbahljdbhaaChecked
import GoSem.Claim
import GoSem.ClaimJoined
import GoSem.ClaimMapViews
import Derived.JoinedTies
import Derived.KernelRfl
namespace Go.Proofs.Ytangfbahljdbhaa
/- THE CELL 'sum', in the pinned program and in every row, IS THE sha256 OF THE DUMP (.gsa) THAT YtangfbahljdbhaaProg.lean LOADS. Nothing in Lean hashes anything: it is a label: what it is worth is what the hold of that sum in a sandbox is worth. -/
noncomputable def Try.pinned : Pinned := { name := "ytangfbahljdbhaa", sum := "62afd38aac883fe3f4d2ad7edfddc36b92d3d42d96b6ba367bb8e0bb0f605130", checked := Try.checked }
namespace Rows
def none {H : Type} : Left H := { results := [], args := [] }

/-- 'backstaylaw22.FixedRoots': WHATEVER THE INPUT: true; the input reads as it did. -/
def fixedRootsSpec : ChangeSpec := { name := "fixedRoots", fn := fun _ => fun
  | [d] => { results := [.lit (.bool true)], args := [d] }
  | _ => none }
def fixedRootsRow : OpenClaim := { program := "ytangfbahljdbhaa", sum := "62afd38aac883fe3f4d2ad7edfddc36b92d3d42d96b6ba367bb8e0bb0f605130", func := "backstay/backstaylaw22.FixedRoots", spec := "fixedRoots", apart := false }
def FixedRootsSaid : Prop := fixedRootsRow.holds Try.pinned (OpenSpec.ofChange fixedRootsSpec)

/-- ITS FALSE NEIGHBOUR: 'it returns false'. Refute it at one input. -/
def fixedRootsWrong : ChangeSpec := { name := "fixedRoots", fn := fun _ => fun
  | [d] => { results := [.lit (.bool false)], args := [d] }
  | _ => none }
def FixedRootsWrongFalsely : Prop := fixedRootsRow.holds Try.pinned (OpenSpec.ofChange fixedRootsWrong)

/-- 'backstaylaw22.FixedSines': WHATEVER THE INPUT: true; the input reads as it did. -/
def fixedSinesSpec : ChangeSpec := { name := "fixedSines", fn := fun _ => fun
  | [d] => { results := [.lit (.bool true)], args := [d] }
  | _ => none }
def fixedSinesRow : OpenClaim := { program := "ytangfbahljdbhaa", sum := "62afd38aac883fe3f4d2ad7edfddc36b92d3d42d96b6ba367bb8e0bb0f605130", func := "backstay/backstaylaw22.FixedSines", spec := "fixedSines", apart := false }
def FixedSinesSaid : Prop := fixedSinesRow.holds Try.pinned (OpenSpec.ofChange fixedSinesSpec)

/-- ITS FALSE NEIGHBOUR: 'it returns false'. Refute it at one input. -/
def fixedSinesWrong : ChangeSpec := { name := "fixedSines", fn := fun _ => fun
  | [d] => { results := [.lit (.bool false)], args := [d] }
  | _ => none }
def FixedSinesWrongFalsely : Prop := fixedSinesRow.holds Try.pinned (OpenSpec.ofChange fixedSinesWrong)

/-- 'backstaylaw22.FixedMuls': WHATEVER THE INPUT: true; the input reads as it did. -/
def fixedMulsSpec : ChangeSpec := { name := "fixedMuls", fn := fun _ => fun
  | [d1, d2, d3] => { results := [.lit (.bool true)], args := [d1, d2, d3] }
  | _ => none }
def fixedMulsRow : OpenClaim := { program := "ytangfbahljdbhaa", sum := "62afd38aac883fe3f4d2ad7edfddc36b92d3d42d96b6ba367bb8e0bb0f605130", func := "backstay/backstaylaw22.FixedMuls", spec := "fixedMuls", apart := false }
def FixedMulsSaid : Prop := fixedMulsRow.holds Try.pinned (OpenSpec.ofChange fixedMulsSpec)

/-- ITS FALSE NEIGHBOUR: 'it returns false'. Refute it at one input. -/
def fixedMulsWrong : ChangeSpec := { name := "fixedMuls", fn := fun _ => fun
  | [d1, d2, d3] => { results := [.lit (.bool false)], args := [d1, d2, d3] }
  | _ => none }
def FixedMulsWrongFalsely : Prop := fixedMulsRow.holds Try.pinned (OpenSpec.ofChange fixedMulsWrong)

/-- 'backstaylaw22.FixedMoves': WHATEVER THE INPUT: true; the input reads as it did. -/
def fixedMovesSpec : ChangeSpec := { name := "fixedMoves", fn := fun _ => fun
  | [d1, d2, d3] => { results := [.lit (.bool true)], args := [d1, d2, d3] }
  | _ => none }
def fixedMovesRow : OpenClaim := { program := "ytangfbahljdbhaa", sum := "62afd38aac883fe3f4d2ad7edfddc36b92d3d42d96b6ba367bb8e0bb0f605130", func := "backstay/backstaylaw22.FixedMoves", spec := "fixedMoves", apart := false }
def FixedMovesSaid : Prop := fixedMovesRow.holds Try.pinned (OpenSpec.ofChange fixedMovesSpec)

/-- ITS FALSE NEIGHBOUR: 'it returns false'. Refute it at one input. -/
def fixedMovesWrong : ChangeSpec := { name := "fixedMoves", fn := fun _ => fun
  | [d1, d2, d3] => { results := [.lit (.bool false)], args := [d1, d2, d3] }
  | _ => none }
def FixedMovesWrongFalsely : Prop := fixedMovesRow.holds Try.pinned (OpenSpec.ofChange fixedMovesWrong)

/-- 'backstaylaw22.FixedDivides': WHATEVER THE INPUT: true; the input reads as it did. -/
def fixedDividesSpec : ChangeSpec := { name := "fixedDivides", fn := fun _ => fun
  | [d1, d2] => { results := [.lit (.bool true)], args := [d1, d2] }
  | _ => none }
def fixedDividesRow : OpenClaim := { program := "ytangfbahljdbhaa", sum := "62afd38aac883fe3f4d2ad7edfddc36b92d3d42d96b6ba367bb8e0bb0f605130", func := "backstay/backstaylaw22.FixedDivides", spec := "fixedDivides", apart := false }
def FixedDividesSaid : Prop := fixedDividesRow.holds Try.pinned (OpenSpec.ofChange fixedDividesSpec)

/-- ITS FALSE NEIGHBOUR: 'it returns false'. Refute it at one input. -/
def fixedDividesWrong : ChangeSpec := { name := "fixedDivides", fn := fun _ => fun
  | [d1, d2] => { results := [.lit (.bool false)], args := [d1, d2] }
  | _ => none }
def FixedDividesWrongFalsely : Prop := fixedDividesRow.holds Try.pinned (OpenSpec.ofChange fixedDividesWrong)

/- THE SECOND FORM. 'bulk': how many values and letters a reading holds, each counted each time it is reached (what is shared counts as often as it is met; a slice's spare places count too). A statement '..UptoSaid' is the law's where the arguments, and the package variables that the reading takes, are together of bulk at most 1048576: NARROWER than '..Said'. Prove '..Said' where nothing that the law and all that it calls make is longer than what came in: it says more and counts as full. Else prove '..UptoSaid'. A law counts once. -/
mutual
def uptoBulk {H : Type} : DataW H → Nat
  | .lit (.string bytes) => bytes.length + 1
  | .lit _ => 1
  | .nil => 1
  | .ptr d => uptoBulk d + 1
  | .slice elems spare => uptoBulkAll elems + uptoBulkAll spare + 1
  | .agg parts => uptoBulkAll parts + 1
  | .iface _ d => uptoBulk d + 1
  | .map entries => uptoBulkEntries entries + 1
  | .held _ => 1
def uptoBulkAll {H : Type} : List (DataW H) → Nat
  | [] => 0
  | d :: r => uptoBulk d + uptoBulkAll r
def uptoBulkEntries {H : Type} : List (Lit × DataW H) → Nat
  | [] => 0
  | x :: r => uptoBulkEntry x + uptoBulkEntries r
def uptoBulkEntry {H : Type} : Lit × DataW H → Nat
  | (.string bytes, d) => bytes.length + uptoBulk d + 1
  | (_, d) => uptoBulk d + 1
 end
def uptoSmall : (H : Type) → List (DataW H) → Bool := fun _ ds => decide (uptoBulkAll ds ≤ 1048576)
def OpenSpec.upto (s : _root_.Go.ChangeSpec) : _root_.Go.OpenSpec := { _root_.Go.OpenSpec.ofChange s with cond := some uptoSmall }

/-- 'backstaylaw22.FixedRoots', WHERE WHAT IT READS IS OF BULK AT MOST 1048576: true; the input reads as it did. -/
def fixedRootsUptoRow : OpenClaim := { program := "ytangfbahljdbhaa", sum := "62afd38aac883fe3f4d2ad7edfddc36b92d3d42d96b6ba367bb8e0bb0f605130", func := "backstay/backstaylaw22.FixedRoots", spec := "fixedRoots", apart := false, narrowed := true }
def FixedRootsUptoSaid : Prop := fixedRootsUptoRow.holds Try.pinned (OpenSpec.upto fixedRootsSpec)

/-- 'backstaylaw22.FixedSines', WHERE WHAT IT READS IS OF BULK AT MOST 1048576: true; the input reads as it did. -/
def fixedSinesUptoRow : OpenClaim := { program := "ytangfbahljdbhaa", sum := "62afd38aac883fe3f4d2ad7edfddc36b92d3d42d96b6ba367bb8e0bb0f605130", func := "backstay/backstaylaw22.FixedSines", spec := "fixedSines", apart := false, narrowed := true }
def FixedSinesUptoSaid : Prop := fixedSinesUptoRow.holds Try.pinned (OpenSpec.upto fixedSinesSpec)

/-- 'backstaylaw22.FixedMuls', WHERE WHAT IT READS IS OF BULK AT MOST 1048576: true; the input reads as it did. -/
def fixedMulsUptoRow : OpenClaim := { program := "ytangfbahljdbhaa", sum := "62afd38aac883fe3f4d2ad7edfddc36b92d3d42d96b6ba367bb8e0bb0f605130", func := "backstay/backstaylaw22.FixedMuls", spec := "fixedMuls", apart := false, narrowed := true }
def FixedMulsUptoSaid : Prop := fixedMulsUptoRow.holds Try.pinned (OpenSpec.upto fixedMulsSpec)

/-- 'backstaylaw22.FixedMoves', WHERE WHAT IT READS IS OF BULK AT MOST 1048576: true; the input reads as it did. -/
def fixedMovesUptoRow : OpenClaim := { program := "ytangfbahljdbhaa", sum := "62afd38aac883fe3f4d2ad7edfddc36b92d3d42d96b6ba367bb8e0bb0f605130", func := "backstay/backstaylaw22.FixedMoves", spec := "fixedMoves", apart := false, narrowed := true }
def FixedMovesUptoSaid : Prop := fixedMovesUptoRow.holds Try.pinned (OpenSpec.upto fixedMovesSpec)

/-- 'backstaylaw22.FixedDivides', WHERE WHAT IT READS IS OF BULK AT MOST 1048576: true; the input reads as it did. -/
def fixedDividesUptoRow : OpenClaim := { program := "ytangfbahljdbhaa", sum := "62afd38aac883fe3f4d2ad7edfddc36b92d3d42d96b6ba367bb8e0bb0f605130", func := "backstay/backstaylaw22.FixedDivides", spec := "fixedDivides", apart := false, narrowed := true }
def FixedDividesUptoSaid : Prop := fixedDividesUptoRow.holds Try.pinned (OpenSpec.upto fixedDividesSpec)

end Rows
end Go.Proofs.Ytangfbahljdbhaa
