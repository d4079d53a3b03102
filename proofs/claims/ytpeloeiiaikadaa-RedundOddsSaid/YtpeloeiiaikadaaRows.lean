/-
  No cell of these rows narrows 'for every input' (looked for: loops, veiled, ifaces, maps, wideKeys, modest, calm, conditions, laid).
  DERIVED. THE GIVEN ROWS OF THIS SEAT. 4 by the template 'for every input the law returns true; each argument reads behind the call as it read before'; 0 by the template 'total and deterministic' (their statements: YtpeloeiiaikadaaTotals.lean).
  GIVEN WITH THE SEED: the statements are not yours to turn. If you find one false, say at which input.
  Laid BY PROGRAM, IN A SANDBOX (cutbox-rows.mjs): the forced cells as the released guide's own fill.sh prints them over the translation 9c2b5075bdcaaad0… (all of the seat's roots in one cut). By AI agents, Wed Nov 11 2026. No macro, syntax, notation, axiom, sorry.
-/
import Derived.Test.YtpeloeiiaikadaaChecked
import GoSem.Claim
import GoSem.ClaimJoined
import GoSem.ClaimMapViews
import Derived.JoinedTies
import Derived.KernelRfl
namespace Go.Proofs.Ytpeloeiiaikadaa
/- THE CELL 'sum', in the pinned program and in every row, IS THE sha256 OF THE DUMP (.gsa) THAT YtpeloeiiaikadaaProg.lean LOADS. Nothing in Lean hashes anything: it is a label: what it is worth is what the hold of that sum in a sandbox is worth. -/
noncomputable def Try.pinned : Pinned := { name := "ytpeloeiiaikadaa", sum := "9c2b5075bdcaaad0c2b7415c1cb9d0b3e447ef8df6bd8b3dd70895b647374d79", checked := Try.checked }
namespace Rows
def none {H : Type} : Left H := { results := [], args := [] }

/-- 'backstaylaw16.RedundTargets': WHATEVER THE INPUT: true; the input reads as it did. -/
def redundTargetsSpec : ChangeSpec := { name := "redundTargets", fn := fun _ => fun
  | [d1, d2, d3] => { results := [.lit (.bool true)], args := [d1, d2, d3] }
  | _ => none }
def redundTargetsRow : OpenClaim := { program := "ytpeloeiiaikadaa", sum := "9c2b5075bdcaaad0c2b7415c1cb9d0b3e447ef8df6bd8b3dd70895b647374d79", func := "backstay/backstaylaw16.RedundTargets", spec := "redundTargets", apart := false }
def RedundTargetsSaid : Prop := redundTargetsRow.holds Try.pinned (OpenSpec.ofChange redundTargetsSpec)

/-- ITS FALSE NEIGHBOUR: 'it returns false'. Refute it at one input. -/
def redundTargetsWrong : ChangeSpec := { name := "redundTargets", fn := fun _ => fun
  | [d1, d2, d3] => { results := [.lit (.bool false)], args := [d1, d2, d3] }
  | _ => none }
def RedundTargetsWrongFalsely : Prop := redundTargetsRow.holds Try.pinned (OpenSpec.ofChange redundTargetsWrong)

/-- 'backstaylaw16.RedundPlays': WHATEVER THE INPUT: true; the input reads as it did. -/
def redundPlaysSpec : ChangeSpec := { name := "redundPlays", fn := fun _ => fun
  | [d1, d2] => { results := [.lit (.bool true)], args := [d1, d2] }
  | _ => none }
def redundPlaysRow : OpenClaim := { program := "ytpeloeiiaikadaa", sum := "9c2b5075bdcaaad0c2b7415c1cb9d0b3e447ef8df6bd8b3dd70895b647374d79", func := "backstay/backstaylaw16.RedundPlays", spec := "redundPlays", apart := false }
def RedundPlaysSaid : Prop := redundPlaysRow.holds Try.pinned (OpenSpec.ofChange redundPlaysSpec)

/-- ITS FALSE NEIGHBOUR: 'it returns false'. Refute it at one input. -/
def redundPlaysWrong : ChangeSpec := { name := "redundPlays", fn := fun _ => fun
  | [d1, d2] => { results := [.lit (.bool false)], args := [d1, d2] }
  | _ => none }
def RedundPlaysWrongFalsely : Prop := redundPlaysRow.holds Try.pinned (OpenSpec.ofChange redundPlaysWrong)

/-- 'backstaylaw16.RedundSlow': WHATEVER THE INPUT: true; the input reads as it did. -/
def redundSlowSpec : ChangeSpec := { name := "redundSlow", fn := fun _ => fun
  | [d1, d2] => { results := [.lit (.bool true)], args := [d1, d2] }
  | _ => none }
def redundSlowRow : OpenClaim := { program := "ytpeloeiiaikadaa", sum := "9c2b5075bdcaaad0c2b7415c1cb9d0b3e447ef8df6bd8b3dd70895b647374d79", func := "backstay/backstaylaw16.RedundSlow", spec := "redundSlow", apart := false }
def RedundSlowSaid : Prop := redundSlowRow.holds Try.pinned (OpenSpec.ofChange redundSlowSpec)

/-- ITS FALSE NEIGHBOUR: 'it returns false'. Refute it at one input. -/
def redundSlowWrong : ChangeSpec := { name := "redundSlow", fn := fun _ => fun
  | [d1, d2] => { results := [.lit (.bool false)], args := [d1, d2] }
  | _ => none }
def RedundSlowWrongFalsely : Prop := redundSlowRow.holds Try.pinned (OpenSpec.ofChange redundSlowWrong)

/-- 'backstaylaw16.RedundOdds': WHATEVER THE INPUT: true; the input reads as it did. -/
def redundOddsSpec : ChangeSpec := { name := "redundOdds", fn := fun _ => fun
  | [d1, d2, d3] => { results := [.lit (.bool true)], args := [d1, d2, d3] }
  | _ => none }
def redundOddsRow : OpenClaim := { program := "ytpeloeiiaikadaa", sum := "9c2b5075bdcaaad0c2b7415c1cb9d0b3e447ef8df6bd8b3dd70895b647374d79", func := "backstay/backstaylaw16.RedundOdds", spec := "redundOdds", apart := false }
def RedundOddsSaid : Prop := redundOddsRow.holds Try.pinned (OpenSpec.ofChange redundOddsSpec)

/-- ITS FALSE NEIGHBOUR: 'it returns false'. Refute it at one input. -/
def redundOddsWrong : ChangeSpec := { name := "redundOdds", fn := fun _ => fun
  | [d1, d2, d3] => { results := [.lit (.bool false)], args := [d1, d2, d3] }
  | _ => none }
def RedundOddsWrongFalsely : Prop := redundOddsRow.holds Try.pinned (OpenSpec.ofChange redundOddsWrong)

/- THE SECOND FORM. 'bulk': how many values and letters a reading holds, each counted each time it is reached (what is shared counts as often as it is met; a slice's spare places count too). A statement '..UptoSaid' is the law's where the arguments, and the package variables that the reading takes, are together of bulk at most 1048576: NARROWER than '..Said'. Prove '..Said' where nothing that the law and all that it calls make is longer than what came in: it says more and counts as full. Else prove '..UptoSaid'. A law counts once. -/
mutual
def uptoBulk {H : Type} : DataW H → Nat
  | .lit (.string bytes) => bytes.length + 1
  | .lit _ => 1
  | .nil => 1
  | .ptr d => uptoBulk d + 1
  | .slice elems spare => uptoBulkAll elems + uptoBulkAll spare + 1
  | .agg parts => uptoBulkAll parts + 1
  | .iface _ d => uptoBulk d + 1
  | .map entries => uptoBulkEntries entries + 1
  | .held _ => 1
def uptoBulkAll {H : Type} : List (DataW H) → Nat
  | [] => 0
  | d :: r => uptoBulk d + uptoBulkAll r
def uptoBulkEntries {H : Type} : List (Lit × DataW H) → Nat
  | [] => 0
  | x :: r => uptoBulkEntry x + uptoBulkEntries r
def uptoBulkEntry {H : Type} : Lit × DataW H → Nat
  | (.string bytes, d) => bytes.length + uptoBulk d + 1
  | (_, d) => uptoBulk d + 1
 end
def uptoSmall : (H : Type) → List (DataW H) → Bool := fun _ ds => decide (uptoBulkAll ds ≤ 1048576)
def OpenSpec.upto (s : _root_.Go.ChangeSpec) : _root_.Go.OpenSpec := { _root_.Go.OpenSpec.ofChange s with cond := some uptoSmall }

/-- 'backstaylaw16.RedundTargets', WHERE WHAT IT READS IS OF BULK AT MOST 1048576: true; the input reads as it did. -/
def redundTargetsUptoRow : OpenClaim := { program := "ytpeloeiiaikadaa", sum := "9c2b5075bdcaaad0c2b7415c1cb9d0b3e447ef8df6bd8b3dd70895b647374d79", func := "backstay/backstaylaw16.RedundTargets", spec := "redundTargets", apart := false, narrowed := true }
def RedundTargetsUptoSaid : Prop := redundTargetsUptoRow.holds Try.pinned (OpenSpec.upto redundTargetsSpec)

/-- 'backstaylaw16.RedundPlays', WHERE WHAT IT READS IS OF BULK AT MOST 1048576: true; the input reads as it did. -/
def redundPlaysUptoRow : OpenClaim := { program := "ytpeloeiiaikadaa", sum := "9c2b5075bdcaaad0c2b7415c1cb9d0b3e447ef8df6bd8b3dd70895b647374d79", func := "backstay/backstaylaw16.RedundPlays", spec := "redundPlays", apart := false, narrowed := true }
def RedundPlaysUptoSaid : Prop := redundPlaysUptoRow.holds Try.pinned (OpenSpec.upto redundPlaysSpec)

/-- 'backstaylaw16.RedundSlow', WHERE WHAT IT READS IS OF BULK AT MOST 1048576: true; the input reads as it did. -/
def redundSlowUptoRow : OpenClaim := { program := "ytpeloeiiaikadaa", sum := "9c2b5075bdcaaad0c2b7415c1cb9d0b3e447ef8df6bd8b3dd70895b647374d79", func := "backstay/backstaylaw16.RedundSlow", spec := "redundSlow", apart := false, narrowed := true }
def RedundSlowUptoSaid : Prop := redundSlowUptoRow.holds Try.pinned (OpenSpec.upto redundSlowSpec)

/-- 'backstaylaw16.RedundOdds', WHERE WHAT IT READS IS OF BULK AT MOST 1048576: true; the input reads as it did. -/
def redundOddsUptoRow : OpenClaim := { program := "ytpeloeiiaikadaa", sum := "9c2b5075bdcaaad0c2b7415c1cb9d0b3e447ef8df6bd8b3dd70895b647374d79", func := "backstay/backstaylaw16.RedundOdds", spec := "redundOdds", apart := false, narrowed := true }
def RedundOddsUptoSaid : Prop := redundOddsUptoRow.holds Try.pinned (OpenSpec.upto redundOddsSpec)

end Rows
end Go.Proofs.Ytpeloeiiaikadaa
