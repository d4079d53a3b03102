/-
  No cell of these rows narrows 'for every input' (looked for: loops, veiled, ifaces, maps, wideKeys, modest, calm, conditions, laid).
  DERIVED. THE GIVEN ROWS OF THIS SEAT. 4 by the template 'for every input the law returns true; each argument reads behind the call as it read before'; 0 by the template 'total and deterministic' (their statements: YtchpiiccdoejdaaTotals.lean).
  GIVEN WITH THE SEED: the statements are not yours to turn. If you find one false, say at which input.
  Laid BY PROGRAM, IN A SANDBOX (cutbox-rows.mjs): the forced cells as the released guide's own fill.sh prints them over the translation 61448d8390efb5cf… (all of the seat's roots in one cut). By AI agents, Wed Nov 11 2026. No macro, syntax, notation, axiom, sorry.
-/
import Derived.Test.YtchpiiccdoejdaaChecked
import GoSem.Claim
import GoSem.ClaimJoined
import GoSem.ClaimMapViews
import Derived.JoinedTies
import Derived.KernelRfl
namespace Go.Proofs.Ytchpiiccdoejdaa
/- THE CELL 'sum', in the pinned program and in every row, IS THE sha256 OF THE DUMP (.gsa) THAT YtchpiiccdoejdaaProg.lean LOADS. Nothing in Lean hashes anything: it is a label: what it is worth is what the hold of that sum in a sandbox is worth. -/
noncomputable def Try.pinned : Pinned := { name := "ytchpiiccdoejdaa", sum := "61448d8390efb5cf528122675527e3f4d0123f893769cd9b3e87eeba026d1c0f", checked := Try.checked }
namespace Rows
def none {H : Type} : Left H := { results := [], args := [] }

/-- 'backstaylaw12.PacerShares': WHATEVER THE INPUT: true; the input reads as it did. -/
def pacerSharesSpec : ChangeSpec := { name := "pacerShares", fn := fun _ => fun
  | [d1, d2] => { results := [.lit (.bool true)], args := [d1, d2] }
  | _ => none }
def pacerSharesRow : OpenClaim := { program := "ytchpiiccdoejdaa", sum := "61448d8390efb5cf528122675527e3f4d0123f893769cd9b3e87eeba026d1c0f", func := "backstay/backstaylaw12.PacerShares", spec := "pacerShares", apart := false }
def PacerSharesSaid : Prop := pacerSharesRow.holds Try.pinned (OpenSpec.ofChange pacerSharesSpec)

/-- ITS FALSE NEIGHBOUR: 'it returns false'. Refute it at one input. -/
def pacerSharesWrong : ChangeSpec := { name := "pacerShares", fn := fun _ => fun
  | [d1, d2] => { results := [.lit (.bool false)], args := [d1, d2] }
  | _ => none }
def PacerSharesWrongFalsely : Prop := pacerSharesRow.holds Try.pinned (OpenSpec.ofChange pacerSharesWrong)

/-- 'backstaylaw12.PacerPlays': WHATEVER THE INPUT: true; the input reads as it did. -/
def pacerPlaysSpec : ChangeSpec := { name := "pacerPlays", fn := fun _ => fun
  | [d1, d2, d3] => { results := [.lit (.bool true)], args := [d1, d2, d3] }
  | _ => none }
def pacerPlaysRow : OpenClaim := { program := "ytchpiiccdoejdaa", sum := "61448d8390efb5cf528122675527e3f4d0123f893769cd9b3e87eeba026d1c0f", func := "backstay/backstaylaw12.PacerPlays", spec := "pacerPlays", apart := false }
def PacerPlaysSaid : Prop := pacerPlaysRow.holds Try.pinned (OpenSpec.ofChange pacerPlaysSpec)

/-- ITS FALSE NEIGHBOUR: 'it returns false'. Refute it at one input. -/
def pacerPlaysWrong : ChangeSpec := { name := "pacerPlays", fn := fun _ => fun
  | [d1, d2, d3] => { results := [.lit (.bool false)], args := [d1, d2, d3] }
  | _ => none }
def PacerPlaysWrongFalsely : Prop := pacerPlaysRow.holds Try.pinned (OpenSpec.ofChange pacerPlaysWrong)

/-- 'backstaylaw12.PacerWaits': WHATEVER THE INPUT: true; the input reads as it did. -/
def pacerWaitsSpec : ChangeSpec := { name := "pacerWaits", fn := fun _ => fun
  | [d1, d2, d3] => { results := [.lit (.bool true)], args := [d1, d2, d3] }
  | _ => none }
def pacerWaitsRow : OpenClaim := { program := "ytchpiiccdoejdaa", sum := "61448d8390efb5cf528122675527e3f4d0123f893769cd9b3e87eeba026d1c0f", func := "backstay/backstaylaw12.PacerWaits", spec := "pacerWaits", apart := false }
def PacerWaitsSaid : Prop := pacerWaitsRow.holds Try.pinned (OpenSpec.ofChange pacerWaitsSpec)

/-- ITS FALSE NEIGHBOUR: 'it returns false'. Refute it at one input. -/
def pacerWaitsWrong : ChangeSpec := { name := "pacerWaits", fn := fun _ => fun
  | [d1, d2, d3] => { results := [.lit (.bool false)], args := [d1, d2, d3] }
  | _ => none }
def PacerWaitsWrongFalsely : Prop := pacerWaitsRow.holds Try.pinned (OpenSpec.ofChange pacerWaitsWrong)

/-- 'backstaylaw12.PacerBounds': WHATEVER THE INPUT: true; the input reads as it did. -/
def pacerBoundsSpec : ChangeSpec := { name := "pacerBounds", fn := fun _ => fun
  | [d1, d2, d3] => { results := [.lit (.bool true)], args := [d1, d2, d3] }
  | _ => none }
def pacerBoundsRow : OpenClaim := { program := "ytchpiiccdoejdaa", sum := "61448d8390efb5cf528122675527e3f4d0123f893769cd9b3e87eeba026d1c0f", func := "backstay/backstaylaw12.PacerBounds", spec := "pacerBounds", apart := false }
def PacerBoundsSaid : Prop := pacerBoundsRow.holds Try.pinned (OpenSpec.ofChange pacerBoundsSpec)

/-- ITS FALSE NEIGHBOUR: 'it returns false'. Refute it at one input. -/
def pacerBoundsWrong : ChangeSpec := { name := "pacerBounds", fn := fun _ => fun
  | [d1, d2, d3] => { results := [.lit (.bool false)], args := [d1, d2, d3] }
  | _ => none }
def PacerBoundsWrongFalsely : Prop := pacerBoundsRow.holds Try.pinned (OpenSpec.ofChange pacerBoundsWrong)

/- THE SECOND FORM. 'bulk': how many values and letters a reading holds, each counted each time it is reached (what is shared counts as often as it is met; a slice's spare places count too). A statement '..UptoSaid' is the law's where the arguments, and the package variables that the reading takes, are together of bulk at most 1048576: NARROWER than '..Said'. Prove '..Said' where nothing that the law and all that it calls make is longer than what came in: it says more and counts as full. Else prove '..UptoSaid'. A law counts once. -/
mutual
def uptoBulk {H : Type} : DataW H → Nat
  | .lit (.string bytes) => bytes.length + 1
  | .lit _ => 1
  | .nil => 1
  | .ptr d => uptoBulk d + 1
  | .slice elems spare => uptoBulkAll elems + uptoBulkAll spare + 1
  | .agg parts => uptoBulkAll parts + 1
  | .iface _ d => uptoBulk d + 1
  | .map entries => uptoBulkEntries entries + 1
  | .held _ => 1
def uptoBulkAll {H : Type} : List (DataW H) → Nat
  | [] => 0
  | d :: r => uptoBulk d + uptoBulkAll r
def uptoBulkEntries {H : Type} : List (Lit × DataW H) → Nat
  | [] => 0
  | x :: r => uptoBulkEntry x + uptoBulkEntries r
def uptoBulkEntry {H : Type} : Lit × DataW H → Nat
  | (.string bytes, d) => bytes.length + uptoBulk d + 1
  | (_, d) => uptoBulk d + 1
 end
def uptoSmall : (H : Type) → List (DataW H) → Bool := fun _ ds => decide (uptoBulkAll ds ≤ 1048576)
def OpenSpec.upto (s : _root_.Go.ChangeSpec) : _root_.Go.OpenSpec := { _root_.Go.OpenSpec.ofChange s with cond := some uptoSmall }

/-- 'backstaylaw12.PacerShares', WHERE WHAT IT READS IS OF BULK AT MOST 1048576: true; the input reads as it did. -/
def pacerSharesUptoRow : OpenClaim := { program := "ytchpiiccdoejdaa", sum := "61448d8390efb5cf528122675527e3f4d0123f893769cd9b3e87eeba026d1c0f", func := "backstay/backstaylaw12.PacerShares", spec := "pacerShares", apart := false, narrowed := true }
def PacerSharesUptoSaid : Prop := pacerSharesUptoRow.holds Try.pinned (OpenSpec.upto pacerSharesSpec)

/-- 'backstaylaw12.PacerPlays', WHERE WHAT IT READS IS OF BULK AT MOST 1048576: true; the input reads as it did. -/
def pacerPlaysUptoRow : OpenClaim := { program := "ytchpiiccdoejdaa", sum := "61448d8390efb5cf528122675527e3f4d0123f893769cd9b3e87eeba026d1c0f", func := "backstay/backstaylaw12.PacerPlays", spec := "pacerPlays", apart := false, narrowed := true }
def PacerPlaysUptoSaid : Prop := pacerPlaysUptoRow.holds Try.pinned (OpenSpec.upto pacerPlaysSpec)

/-- 'backstaylaw12.PacerWaits', WHERE WHAT IT READS IS OF BULK AT MOST 1048576: true; the input reads as it did. -/
def pacerWaitsUptoRow : OpenClaim := { program := "ytchpiiccdoejdaa", sum := "61448d8390efb5cf528122675527e3f4d0123f893769cd9b3e87eeba026d1c0f", func := "backstay/backstaylaw12.PacerWaits", spec := "pacerWaits", apart := false, narrowed := true }
def PacerWaitsUptoSaid : Prop := pacerWaitsUptoRow.holds Try.pinned (OpenSpec.upto pacerWaitsSpec)

/-- 'backstaylaw12.PacerBounds', WHERE WHAT IT READS IS OF BULK AT MOST 1048576: true; the input reads as it did. -/
def pacerBoundsUptoRow : OpenClaim := { program := "ytchpiiccdoejdaa", sum := "61448d8390efb5cf528122675527e3f4d0123f893769cd9b3e87eeba026d1c0f", func := "backstay/backstaylaw12.PacerBounds", spec := "pacerBounds", apart := false, narrowed := true }
def PacerBoundsUptoSaid : Prop := pacerBoundsUptoRow.holds Try.pinned (OpenSpec.upto pacerBoundsSpec)

end Rows
end Go.Proofs.Ytchpiiccdoejdaa
