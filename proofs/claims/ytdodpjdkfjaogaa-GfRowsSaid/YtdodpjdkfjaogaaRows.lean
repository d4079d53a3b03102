/-
  No cell of these rows narrows 'for every input' (looked for: loops, veiled, ifaces, maps, wideKeys, modest, calm, conditions, laid).
  DERIVED. THE GIVEN ROWS OF THIS SEAT. 6 by the template 'for every input the law returns true; each argument reads behind the call as it read before'; 0 by the template 'total and deterministic' (their statements: YtdodpjdkfjaogaaTotals.lean).
  GIVEN WITH THE SEED: the statements are not yours to turn. If you find one false, say at which input.
  Laid BY PROGRAM, IN A SANDBOX (cutbox-rows.mjs): the forced cells as the released guide's own fill.sh prints them over the translation 12de0e30de191431… (all of the seat's roots in one cut). By AI agents, Wed Nov 11 2026. No macro, syntax, notation, axiom, sorry.
-/
import Derived.Test.YtdodpjdkfjaogaaChecked
import GoSem.Claim
import GoSem.ClaimJoined
import GoSem.ClaimMapViews
import Derived.JoinedTies
import Derived.KernelRfl
namespace Go.Proofs.Ytdodpjdkfjaogaa
/- THE CELL 'sum', in the pinned program and in every row, IS THE sha256 OF THE DUMP (.gsa) THAT YtdodpjdkfjaogaaProg.lean LOADS. Nothing in Lean hashes anything: it is a label: what it is worth is what the hold of that sum in a sandbox is worth. -/
noncomputable def Try.pinned : Pinned := { name := "ytdodpjdkfjaogaa", sum := "12de0e30de1914312905d29fbfe90059bc9be2bdc910e22c4ec73f9411787089", checked := Try.checked }
namespace Rows
def none {H : Type} : Left H := { results := [], args := [] }

/-- 'backstaylaw03.GfMuls': WHATEVER THE INPUT: true; the input reads as it did. -/
def gfMulsSpec : ChangeSpec := { name := "gfMuls", fn := fun _ => fun
  | [d1, d2] => { results := [.lit (.bool true)], args := [d1, d2] }
  | _ => none }
def gfMulsRow : OpenClaim := { program := "ytdodpjdkfjaogaa", sum := "12de0e30de1914312905d29fbfe90059bc9be2bdc910e22c4ec73f9411787089", func := "backstay/backstaylaw03.GfMuls", spec := "gfMuls", apart := false }
def GfMulsSaid : Prop := gfMulsRow.holds Try.pinned (OpenSpec.ofChange gfMulsSpec)

/-- ITS FALSE NEIGHBOUR: 'it returns false'. Refute it at one input. -/
def gfMulsWrong : ChangeSpec := { name := "gfMuls", fn := fun _ => fun
  | [d1, d2] => { results := [.lit (.bool false)], args := [d1, d2] }
  | _ => none }
def GfMulsWrongFalsely : Prop := gfMulsRow.holds Try.pinned (OpenSpec.ofChange gfMulsWrong)

/-- 'backstaylaw03.GfDivides': WHATEVER THE INPUT: true; the input reads as it did. -/
def gfDividesSpec : ChangeSpec := { name := "gfDivides", fn := fun _ => fun
  | [d1, d2] => { results := [.lit (.bool true)], args := [d1, d2] }
  | _ => none }
def gfDividesRow : OpenClaim := { program := "ytdodpjdkfjaogaa", sum := "12de0e30de1914312905d29fbfe90059bc9be2bdc910e22c4ec73f9411787089", func := "backstay/backstaylaw03.GfDivides", spec := "gfDivides", apart := false }
def GfDividesSaid : Prop := gfDividesRow.holds Try.pinned (OpenSpec.ofChange gfDividesSpec)

/-- ITS FALSE NEIGHBOUR: 'it returns false'. Refute it at one input. -/
def gfDividesWrong : ChangeSpec := { name := "gfDivides", fn := fun _ => fun
  | [d1, d2] => { results := [.lit (.bool false)], args := [d1, d2] }
  | _ => none }
def GfDividesWrongFalsely : Prop := gfDividesRow.holds Try.pinned (OpenSpec.ofChange gfDividesWrong)

/-- 'backstaylaw03.GfLogs': WHATEVER THE INPUT: true; the input reads as it did. -/
def gfLogsSpec : ChangeSpec := { name := "gfLogs", fn := fun _ => fun
  | [d1, d2] => { results := [.lit (.bool true)], args := [d1, d2] }
  | _ => none }
def gfLogsRow : OpenClaim := { program := "ytdodpjdkfjaogaa", sum := "12de0e30de1914312905d29fbfe90059bc9be2bdc910e22c4ec73f9411787089", func := "backstay/backstaylaw03.GfLogs", spec := "gfLogs", apart := false }
def GfLogsSaid : Prop := gfLogsRow.holds Try.pinned (OpenSpec.ofChange gfLogsSpec)

/-- ITS FALSE NEIGHBOUR: 'it returns false'. Refute it at one input. -/
def gfLogsWrong : ChangeSpec := { name := "gfLogs", fn := fun _ => fun
  | [d1, d2] => { results := [.lit (.bool false)], args := [d1, d2] }
  | _ => none }
def GfLogsWrongFalsely : Prop := gfLogsRow.holds Try.pinned (OpenSpec.ofChange gfLogsWrong)

/-- 'backstaylaw03.GfField': WHATEVER THE INPUT: true; the input reads as it did. -/
def gfFieldSpec : ChangeSpec := { name := "gfField", fn := fun _ => fun
  | [d1, d2, d3] => { results := [.lit (.bool true)], args := [d1, d2, d3] }
  | _ => none }
def gfFieldRow : OpenClaim := { program := "ytdodpjdkfjaogaa", sum := "12de0e30de1914312905d29fbfe90059bc9be2bdc910e22c4ec73f9411787089", func := "backstay/backstaylaw03.GfField", spec := "gfField", apart := false }
def GfFieldSaid : Prop := gfFieldRow.holds Try.pinned (OpenSpec.ofChange gfFieldSpec)

/-- ITS FALSE NEIGHBOUR: 'it returns false'. Refute it at one input. -/
def gfFieldWrong : ChangeSpec := { name := "gfField", fn := fun _ => fun
  | [d1, d2, d3] => { results := [.lit (.bool false)], args := [d1, d2, d3] }
  | _ => none }
def GfFieldWrongFalsely : Prop := gfFieldRow.holds Try.pinned (OpenSpec.ofChange gfFieldWrong)

/-- 'backstaylaw03.GfPows': WHATEVER THE INPUT: true; the input reads as it did. -/
def gfPowsSpec : ChangeSpec := { name := "gfPows", fn := fun _ => fun
  | [d1, d2] => { results := [.lit (.bool true)], args := [d1, d2] }
  | _ => none }
def gfPowsRow : OpenClaim := { program := "ytdodpjdkfjaogaa", sum := "12de0e30de1914312905d29fbfe90059bc9be2bdc910e22c4ec73f9411787089", func := "backstay/backstaylaw03.GfPows", spec := "gfPows", apart := false }
def GfPowsSaid : Prop := gfPowsRow.holds Try.pinned (OpenSpec.ofChange gfPowsSpec)

/-- ITS FALSE NEIGHBOUR: 'it returns false'. Refute it at one input. -/
def gfPowsWrong : ChangeSpec := { name := "gfPows", fn := fun _ => fun
  | [d1, d2] => { results := [.lit (.bool false)], args := [d1, d2] }
  | _ => none }
def GfPowsWrongFalsely : Prop := gfPowsRow.holds Try.pinned (OpenSpec.ofChange gfPowsWrong)

/-- 'backstaylaw03.GfRows': WHATEVER THE INPUT: true; the input reads as it did. -/
def gfRowsSpec : ChangeSpec := { name := "gfRows", fn := fun _ => fun
  | [d1, d2, d3] => { results := [.lit (.bool true)], args := [d1, d2, d3] }
  | _ => none }
def gfRowsRow : OpenClaim := { program := "ytdodpjdkfjaogaa", sum := "12de0e30de1914312905d29fbfe90059bc9be2bdc910e22c4ec73f9411787089", func := "backstay/backstaylaw03.GfRows", spec := "gfRows", apart := false }
def GfRowsSaid : Prop := gfRowsRow.holds Try.pinned (OpenSpec.ofChange gfRowsSpec)

/-- ITS FALSE NEIGHBOUR: 'it returns false'. Refute it at one input. -/
def gfRowsWrong : ChangeSpec := { name := "gfRows", fn := fun _ => fun
  | [d1, d2, d3] => { results := [.lit (.bool false)], args := [d1, d2, d3] }
  | _ => none }
def GfRowsWrongFalsely : Prop := gfRowsRow.holds Try.pinned (OpenSpec.ofChange gfRowsWrong)

/- THE SECOND FORM. 'bulk': how many values and letters a reading holds, each counted each time it is reached (what is shared counts as often as it is met; a slice's spare places count too). A statement '..UptoSaid' is the law's where the arguments, and the package variables that the reading takes, are together of bulk at most 1048576: NARROWER than '..Said'. Prove '..Said' where nothing that the law and all that it calls make is longer than what came in: it says more and counts as full. Else prove '..UptoSaid'. A law counts once. -/
mutual
def uptoBulk {H : Type} : DataW H → Nat
  | .lit (.string bytes) => bytes.length + 1
  | .lit _ => 1
  | .nil => 1
  | .ptr d => uptoBulk d + 1
  | .slice elems spare => uptoBulkAll elems + uptoBulkAll spare + 1
  | .agg parts => uptoBulkAll parts + 1
  | .iface _ d => uptoBulk d + 1
  | .map entries => uptoBulkEntries entries + 1
  | .held _ => 1
def uptoBulkAll {H : Type} : List (DataW H) → Nat
  | [] => 0
  | d :: r => uptoBulk d + uptoBulkAll r
def uptoBulkEntries {H : Type} : List (Lit × DataW H) → Nat
  | [] => 0
  | x :: r => uptoBulkEntry x + uptoBulkEntries r
def uptoBulkEntry {H : Type} : Lit × DataW H → Nat
  | (.string bytes, d) => bytes.length + uptoBulk d + 1
  | (_, d) => uptoBulk d + 1
 end
def uptoSmall : (H : Type) → List (DataW H) → Bool := fun _ ds => decide (uptoBulkAll ds ≤ 1048576)
def OpenSpec.upto (s : _root_.Go.ChangeSpec) : _root_.Go.OpenSpec := { _root_.Go.OpenSpec.ofChange s with cond := some uptoSmall }

/-- 'backstaylaw03.GfMuls', WHERE WHAT IT READS IS OF BULK AT MOST 1048576: true; the input reads as it did. -/
def gfMulsUptoRow : OpenClaim := { program := "ytdodpjdkfjaogaa", sum := "12de0e30de1914312905d29fbfe90059bc9be2bdc910e22c4ec73f9411787089", func := "backstay/backstaylaw03.GfMuls", spec := "gfMuls", apart := false, narrowed := true }
def GfMulsUptoSaid : Prop := gfMulsUptoRow.holds Try.pinned (OpenSpec.upto gfMulsSpec)

/-- 'backstaylaw03.GfDivides', WHERE WHAT IT READS IS OF BULK AT MOST 1048576: true; the input reads as it did. -/
def gfDividesUptoRow : OpenClaim := { program := "ytdodpjdkfjaogaa", sum := "12de0e30de1914312905d29fbfe90059bc9be2bdc910e22c4ec73f9411787089", func := "backstay/backstaylaw03.GfDivides", spec := "gfDivides", apart := false, narrowed := true }
def GfDividesUptoSaid : Prop := gfDividesUptoRow.holds Try.pinned (OpenSpec.upto gfDividesSpec)

/-- 'backstaylaw03.GfLogs', WHERE WHAT IT READS IS OF BULK AT MOST 1048576: true; the input reads as it did. -/
def gfLogsUptoRow : OpenClaim := { program := "ytdodpjdkfjaogaa", sum := "12de0e30de1914312905d29fbfe90059bc9be2bdc910e22c4ec73f9411787089", func := "backstay/backstaylaw03.GfLogs", spec := "gfLogs", apart := false, narrowed := true }
def GfLogsUptoSaid : Prop := gfLogsUptoRow.holds Try.pinned (OpenSpec.upto gfLogsSpec)

/-- 'backstaylaw03.GfField', WHERE WHAT IT READS IS OF BULK AT MOST 1048576: true; the input reads as it did. -/
def gfFieldUptoRow : OpenClaim := { program := "ytdodpjdkfjaogaa", sum := "12de0e30de1914312905d29fbfe90059bc9be2bdc910e22c4ec73f9411787089", func := "backstay/backstaylaw03.GfField", spec := "gfField", apart := false, narrowed := true }
def GfFieldUptoSaid : Prop := gfFieldUptoRow.holds Try.pinned (OpenSpec.upto gfFieldSpec)

/-- 'backstaylaw03.GfPows', WHERE WHAT IT READS IS OF BULK AT MOST 1048576: true; the input reads as it did. -/
def gfPowsUptoRow : OpenClaim := { program := "ytdodpjdkfjaogaa", sum := "12de0e30de1914312905d29fbfe90059bc9be2bdc910e22c4ec73f9411787089", func := "backstay/backstaylaw03.GfPows", spec := "gfPows", apart := false, narrowed := true }
def GfPowsUptoSaid : Prop := gfPowsUptoRow.holds Try.pinned (OpenSpec.upto gfPowsSpec)

/-- 'backstaylaw03.GfRows', WHERE WHAT IT READS IS OF BULK AT MOST 1048576: true; the input reads as it did. -/
def gfRowsUptoRow : OpenClaim := { program := "ytdodpjdkfjaogaa", sum := "12de0e30de1914312905d29fbfe90059bc9be2bdc910e22c4ec73f9411787089", func := "backstay/backstaylaw03.GfRows", spec := "gfRows", apart := false, narrowed := true }
def GfRowsUptoSaid : Prop := gfRowsUptoRow.holds Try.pinned (OpenSpec.upto gfRowsSpec)

end Rows
end Go.Proofs.Ytdodpjdkfjaogaa
