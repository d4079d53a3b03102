/-
  No cell of these rows narrows 'for every input' (looked for: loops, veiled, ifaces, maps, wideKeys, modest, calm, conditions, laid).
  DERIVED. THE GIVEN ROWS OF THIS SEAT. 4 by the template 'for every input the law returns true; each argument reads behind the call as it read before'; 0 by the template 'total and deterministic' (their statements: YtnbpgedeoflmgaaTotals.lean).
  GIVEN WITH THE SEED: the statements are not yours to turn. If you find one false, say at which input.
  Laid BY PROGRAM, IN A SANDBOX (cutbox-rows.mjs): the forced cells as the released guide's own fill.sh prints them over the translation 1489301e42fb7943… (all of the seat's roots in one cut). By AI agents, Wed Nov 11 2026. No macro, syntax, notation, axiom, sorry.
-/
import Derived.Test.YtnbpgedeoflmgaaChecked
import GoSem.Claim
import GoSem.ClaimJoined
import GoSem.ClaimMapViews
import Derived.JoinedTies
import Derived.KernelRfl
namespace Go.Proofs.Ytnbpgedeoflmgaa
/- THE CELL 'sum', in the pinned program and in every row, IS THE sha256 OF THE DUMP (.gsa) THAT YtnbpgedeoflmgaaProg.lean LOADS. Nothing in Lean hashes anything: it is a label: what it is worth is what the hold of that sum in a sandbox is worth. -/
noncomputable def Try.pinned : Pinned := { name := "ytnbpgedeoflmgaa", sum := "1489301e42fb7943ee2c9c9310217b261f11937169871c274edbc1665150d362", checked := Try.checked }
namespace Rows
def none {H : Type} : Left H := { results := [], args := [] }

/-- 'backstaylaw13.StatsHold': WHATEVER THE INPUT: true; the input reads as it did. -/
def statsHoldSpec : ChangeSpec := { name := "statsHold", fn := fun _ => fun
  | [d] => { results := [.lit (.bool true)], args := [d] }
  | _ => none }
def statsHoldRow : OpenClaim := { program := "ytnbpgedeoflmgaa", sum := "1489301e42fb7943ee2c9c9310217b261f11937169871c274edbc1665150d362", func := "backstay/backstaylaw13.StatsHold", spec := "statsHold", apart := false }
def StatsHoldSaid : Prop := statsHoldRow.holds Try.pinned (OpenSpec.ofChange statsHoldSpec)

/-- ITS FALSE NEIGHBOUR: 'it returns false'. Refute it at one input. -/
def statsHoldWrong : ChangeSpec := { name := "statsHold", fn := fun _ => fun
  | [d] => { results := [.lit (.bool false)], args := [d] }
  | _ => none }
def StatsHoldWrongFalsely : Prop := statsHoldRow.holds Try.pinned (OpenSpec.ofChange statsHoldWrong)

/-- 'backstaylaw13.StatsNeeds': WHATEVER THE INPUT: true; the input reads as it did. -/
def statsNeedsSpec : ChangeSpec := { name := "statsNeeds", fn := fun _ => fun
  | [d1, d2] => { results := [.lit (.bool true)], args := [d1, d2] }
  | _ => none }
def statsNeedsRow : OpenClaim := { program := "ytnbpgedeoflmgaa", sum := "1489301e42fb7943ee2c9c9310217b261f11937169871c274edbc1665150d362", func := "backstay/backstaylaw13.StatsNeeds", spec := "statsNeeds", apart := false }
def StatsNeedsSaid : Prop := statsNeedsRow.holds Try.pinned (OpenSpec.ofChange statsNeedsSpec)

/-- ITS FALSE NEIGHBOUR: 'it returns false'. Refute it at one input. -/
def statsNeedsWrong : ChangeSpec := { name := "statsNeeds", fn := fun _ => fun
  | [d1, d2] => { results := [.lit (.bool false)], args := [d1, d2] }
  | _ => none }
def StatsNeedsWrongFalsely : Prop := statsNeedsRow.holds Try.pinned (OpenSpec.ofChange statsNeedsWrong)

/-- 'backstaylaw13.StatsPlays': WHATEVER THE INPUT: true; the input reads as it did. -/
def statsPlaysSpec : ChangeSpec := { name := "statsPlays", fn := fun _ => fun
  | [d1, d2, d3] => { results := [.lit (.bool true)], args := [d1, d2, d3] }
  | _ => none }
def statsPlaysRow : OpenClaim := { program := "ytnbpgedeoflmgaa", sum := "1489301e42fb7943ee2c9c9310217b261f11937169871c274edbc1665150d362", func := "backstay/backstaylaw13.StatsPlays", spec := "statsPlays", apart := false }
def StatsPlaysSaid : Prop := statsPlaysRow.holds Try.pinned (OpenSpec.ofChange statsPlaysSpec)

/-- ITS FALSE NEIGHBOUR: 'it returns false'. Refute it at one input. -/
def statsPlaysWrong : ChangeSpec := { name := "statsPlays", fn := fun _ => fun
  | [d1, d2, d3] => { results := [.lit (.bool false)], args := [d1, d2, d3] }
  | _ => none }
def StatsPlaysWrongFalsely : Prop := statsPlaysRow.holds Try.pinned (OpenSpec.ofChange statsPlaysWrong)

/-- 'backstaylaw13.StatsBetter': WHATEVER THE INPUT: true; the input reads as it did. -/
def statsBetterSpec : ChangeSpec := { name := "statsBetter", fn := fun _ => fun
  | [d1, d2] => { results := [.lit (.bool true)], args := [d1, d2] }
  | _ => none }
def statsBetterRow : OpenClaim := { program := "ytnbpgedeoflmgaa", sum := "1489301e42fb7943ee2c9c9310217b261f11937169871c274edbc1665150d362", func := "backstay/backstaylaw13.StatsBetter", spec := "statsBetter", apart := false }
def StatsBetterSaid : Prop := statsBetterRow.holds Try.pinned (OpenSpec.ofChange statsBetterSpec)

/-- ITS FALSE NEIGHBOUR: 'it returns false'. Refute it at one input. -/
def statsBetterWrong : ChangeSpec := { name := "statsBetter", fn := fun _ => fun
  | [d1, d2] => { results := [.lit (.bool false)], args := [d1, d2] }
  | _ => none }
def StatsBetterWrongFalsely : Prop := statsBetterRow.holds Try.pinned (OpenSpec.ofChange statsBetterWrong)

/- THE SECOND FORM. 'bulk': how many values and letters a reading holds, each counted each time it is reached (what is shared counts as often as it is met; a slice's spare places count too). A statement '..UptoSaid' is the law's where the arguments, and the package variables that the reading takes, are together of bulk at most 1048576: NARROWER than '..Said'. Prove '..Said' where nothing that the law and all that it calls make is longer than what came in: it says more and counts as full. Else prove '..UptoSaid'. A law counts once. -/
mutual
def uptoBulk {H : Type} : DataW H → Nat
  | .lit (.string bytes) => bytes.length + 1
  | .lit _ => 1
  | .nil => 1
  | .ptr d => uptoBulk d + 1
  | .slice elems spare => uptoBulkAll elems + uptoBulkAll spare + 1
  | .agg parts => uptoBulkAll parts + 1
  | .iface _ d => uptoBulk d + 1
  | .map entries => uptoBulkEntries entries + 1
  | .held _ => 1
def uptoBulkAll {H : Type} : List (DataW H) → Nat
  | [] => 0
  | d :: r => uptoBulk d + uptoBulkAll r
def uptoBulkEntries {H : Type} : List (Lit × DataW H) → Nat
  | [] => 0
  | x :: r => uptoBulkEntry x + uptoBulkEntries r
def uptoBulkEntry {H : Type} : Lit × DataW H → Nat
  | (.string bytes, d) => bytes.length + uptoBulk d + 1
  | (_, d) => uptoBulk d + 1
 end
def uptoSmall : (H : Type) → List (DataW H) → Bool := fun _ ds => decide (uptoBulkAll ds ≤ 1048576)
def OpenSpec.upto (s : _root_.Go.ChangeSpec) : _root_.Go.OpenSpec := { _root_.Go.OpenSpec.ofChange s with cond := some uptoSmall }

/-- 'backstaylaw13.StatsHold', WHERE WHAT IT READS IS OF BULK AT MOST 1048576: true; the input reads as it did. -/
def statsHoldUptoRow : OpenClaim := { program := "ytnbpgedeoflmgaa", sum := "1489301e42fb7943ee2c9c9310217b261f11937169871c274edbc1665150d362", func := "backstay/backstaylaw13.StatsHold", spec := "statsHold", apart := false, narrowed := true }
def StatsHoldUptoSaid : Prop := statsHoldUptoRow.holds Try.pinned (OpenSpec.upto statsHoldSpec)

/-- 'backstaylaw13.StatsNeeds', WHERE WHAT IT READS IS OF BULK AT MOST 1048576: true; the input reads as it did. -/
def statsNeedsUptoRow : OpenClaim := { program := "ytnbpgedeoflmgaa", sum := "1489301e42fb7943ee2c9c9310217b261f11937169871c274edbc1665150d362", func := "backstay/backstaylaw13.StatsNeeds", spec := "statsNeeds", apart := false, narrowed := true }
def StatsNeedsUptoSaid : Prop := statsNeedsUptoRow.holds Try.pinned (OpenSpec.upto statsNeedsSpec)

/-- 'backstaylaw13.StatsPlays', WHERE WHAT IT READS IS OF BULK AT MOST 1048576: true; the input reads as it did. -/
def statsPlaysUptoRow : OpenClaim := { program := "ytnbpgedeoflmgaa", sum := "1489301e42fb7943ee2c9c9310217b261f11937169871c274edbc1665150d362", func := "backstay/backstaylaw13.StatsPlays", spec := "statsPlays", apart := false, narrowed := true }
def StatsPlaysUptoSaid : Prop := statsPlaysUptoRow.holds Try.pinned (OpenSpec.upto statsPlaysSpec)

/-- 'backstaylaw13.StatsBetter', WHERE WHAT IT READS IS OF BULK AT MOST 1048576: true; the input reads as it did. -/
def statsBetterUptoRow : OpenClaim := { program := "ytnbpgedeoflmgaa", sum := "1489301e42fb7943ee2c9c9310217b261f11937169871c274edbc1665150d362", func := "backstay/backstaylaw13.StatsBetter", spec := "statsBetter", apart := false, narrowed := true }
def StatsBetterUptoSaid : Prop := statsBetterUptoRow.holds Try.pinned (OpenSpec.upto statsBetterSpec)

end Rows
end Go.Proofs.Ytnbpgedeoflmgaa
