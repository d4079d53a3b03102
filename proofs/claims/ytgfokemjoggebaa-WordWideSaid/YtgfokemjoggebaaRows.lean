/-
  No cell of these rows narrows 'for every input' (looked for: loops, veiled, ifaces, maps, wideKeys, modest, calm, conditions, laid).
  DERIVED. THE GIVEN ROWS OF THIS SEAT. 9 by the template 'for every input the law returns true; each argument reads behind the call as it read before'; 0 by the template 'total and deterministic' (their statements: YtgfokemjoggebaaTotals.lean).
  GIVEN WITH THE SEED: the statements are not yours to turn. If you find one false, say at which input.
  Laid BY PROGRAM, IN A SANDBOX (cutbox-rows.mjs): the forced cells as the released guide's own fill.sh prints them over the translation d0a360073ed9f4f8… (all of the seat's roots in one cut). By AI agents, Wed Nov 11 2026. No macro, syntax, notation, axiom, sorry.
-/
import Derived.Test.YtgfokemjoggebaaChecked
import GoSem.Claim
import GoSem.ClaimJoined
import GoSem.ClaimMapViews
import Derived.JoinedTies
import Derived.KernelRfl
namespace Go.Proofs.Ytgfokemjoggebaa
/- THE CELL 'sum', in the pinned program and in every row, IS THE sha256 OF THE DUMP (.gsa) THAT YtgfokemjoggebaaProg.lean LOADS. Nothing in Lean hashes anything: it is a label: what it is worth is what the hold of that sum in a sandbox is worth. -/
noncomputable def Try.pinned : Pinned := { name := "ytgfokemjoggebaa", sum := "d0a360073ed9f4f8db97aa0867e97e016ee6ddcac84150b2584391933c829ee5", checked := Try.checked }
namespace Rows
def none {H : Type} : Left H := { results := [], args := [] }

/-- 'backstaylaw01.WordFloors': WHATEVER THE INPUT: true; the input reads as it did. -/
def wordFloorsSpec : ChangeSpec := { name := "wordFloors", fn := fun _ => fun
  | [d1, d2] => { results := [.lit (.bool true)], args := [d1, d2] }
  | _ => none }
def wordFloorsRow : OpenClaim := { program := "ytgfokemjoggebaa", sum := "d0a360073ed9f4f8db97aa0867e97e016ee6ddcac84150b2584391933c829ee5", func := "backstay/backstaylaw01.WordFloors", spec := "wordFloors", apart := false }
def WordFloorsSaid : Prop := wordFloorsRow.holds Try.pinned (OpenSpec.ofChange wordFloorsSpec)

/-- ITS FALSE NEIGHBOUR: 'it returns false'. Refute it at one input. -/
def wordFloorsWrong : ChangeSpec := { name := "wordFloors", fn := fun _ => fun
  | [d1, d2] => { results := [.lit (.bool false)], args := [d1, d2] }
  | _ => none }
def WordFloorsWrongFalsely : Prop := wordFloorsRow.holds Try.pinned (OpenSpec.ofChange wordFloorsWrong)

/-- 'backstaylaw01.WordBack': WHATEVER THE INPUT: true; the input reads as it did. -/
def wordBackSpec : ChangeSpec := { name := "wordBack", fn := fun _ => fun
  | [d1, d2] => { results := [.lit (.bool true)], args := [d1, d2] }
  | _ => none }
def wordBackRow : OpenClaim := { program := "ytgfokemjoggebaa", sum := "d0a360073ed9f4f8db97aa0867e97e016ee6ddcac84150b2584391933c829ee5", func := "backstay/backstaylaw01.WordBack", spec := "wordBack", apart := false }
def WordBackSaid : Prop := wordBackRow.holds Try.pinned (OpenSpec.ofChange wordBackSpec)

/-- ITS FALSE NEIGHBOUR: 'it returns false'. Refute it at one input. -/
def wordBackWrong : ChangeSpec := { name := "wordBack", fn := fun _ => fun
  | [d1, d2] => { results := [.lit (.bool false)], args := [d1, d2] }
  | _ => none }
def WordBackWrongFalsely : Prop := wordBackRow.holds Try.pinned (OpenSpec.ofChange wordBackWrong)

/-- 'backstaylaw01.WordNewer': WHATEVER THE INPUT: true; the input reads as it did. -/
def wordNewerSpec : ChangeSpec := { name := "wordNewer", fn := fun _ => fun
  | [d1, d2] => { results := [.lit (.bool true)], args := [d1, d2] }
  | _ => none }
def wordNewerRow : OpenClaim := { program := "ytgfokemjoggebaa", sum := "d0a360073ed9f4f8db97aa0867e97e016ee6ddcac84150b2584391933c829ee5", func := "backstay/backstaylaw01.WordNewer", spec := "wordNewer", apart := false }
def WordNewerSaid : Prop := wordNewerRow.holds Try.pinned (OpenSpec.ofChange wordNewerSpec)

/-- ITS FALSE NEIGHBOUR: 'it returns false'. Refute it at one input. -/
def wordNewerWrong : ChangeSpec := { name := "wordNewer", fn := fun _ => fun
  | [d1, d2] => { results := [.lit (.bool false)], args := [d1, d2] }
  | _ => none }
def WordNewerWrongFalsely : Prop := wordNewerRow.holds Try.pinned (OpenSpec.ofChange wordNewerWrong)

/-- 'backstaylaw01.WordSums': WHATEVER THE INPUT: true; the input reads as it did. -/
def wordSumsSpec : ChangeSpec := { name := "wordSums", fn := fun _ => fun
  | [d] => { results := [.lit (.bool true)], args := [d] }
  | _ => none }
def wordSumsRow : OpenClaim := { program := "ytgfokemjoggebaa", sum := "d0a360073ed9f4f8db97aa0867e97e016ee6ddcac84150b2584391933c829ee5", func := "backstay/backstaylaw01.WordSums", spec := "wordSums", apart := false }
def WordSumsSaid : Prop := wordSumsRow.holds Try.pinned (OpenSpec.ofChange wordSumsSpec)

/-- ITS FALSE NEIGHBOUR: 'it returns false'. Refute it at one input. -/
def wordSumsWrong : ChangeSpec := { name := "wordSums", fn := fun _ => fun
  | [d] => { results := [.lit (.bool false)], args := [d] }
  | _ => none }
def WordSumsWrongFalsely : Prop := wordSumsRow.holds Try.pinned (OpenSpec.ofChange wordSumsWrong)

/-- 'backstaylaw01.WordGets': WHATEVER THE INPUT: true; the input reads as it did. -/
def wordGetsSpec : ChangeSpec := { name := "wordGets", fn := fun _ => fun
  | [d] => { results := [.lit (.bool true)], args := [d] }
  | _ => none }
def wordGetsRow : OpenClaim := { program := "ytgfokemjoggebaa", sum := "d0a360073ed9f4f8db97aa0867e97e016ee6ddcac84150b2584391933c829ee5", func := "backstay/backstaylaw01.WordGets", spec := "wordGets", apart := false }
def WordGetsSaid : Prop := wordGetsRow.holds Try.pinned (OpenSpec.ofChange wordGetsSpec)

/-- ITS FALSE NEIGHBOUR: 'it returns false'. Refute it at one input. -/
def wordGetsWrong : ChangeSpec := { name := "wordGets", fn := fun _ => fun
  | [d] => { results := [.lit (.bool false)], args := [d] }
  | _ => none }
def WordGetsWrongFalsely : Prop := wordGetsRow.holds Try.pinned (OpenSpec.ofChange wordGetsWrong)

/-- 'backstaylaw01.WordClamps': WHATEVER THE INPUT: true; the input reads as it did. -/
def wordClampsSpec : ChangeSpec := { name := "wordClamps", fn := fun _ => fun
  | [d1, d2, d3] => { results := [.lit (.bool true)], args := [d1, d2, d3] }
  | _ => none }
def wordClampsRow : OpenClaim := { program := "ytgfokemjoggebaa", sum := "d0a360073ed9f4f8db97aa0867e97e016ee6ddcac84150b2584391933c829ee5", func := "backstay/backstaylaw01.WordClamps", spec := "wordClamps", apart := false }
def WordClampsSaid : Prop := wordClampsRow.holds Try.pinned (OpenSpec.ofChange wordClampsSpec)

/-- ITS FALSE NEIGHBOUR: 'it returns false'. Refute it at one input. -/
def wordClampsWrong : ChangeSpec := { name := "wordClamps", fn := fun _ => fun
  | [d1, d2, d3] => { results := [.lit (.bool false)], args := [d1, d2, d3] }
  | _ => none }
def WordClampsWrongFalsely : Prop := wordClampsRow.holds Try.pinned (OpenSpec.ofChange wordClampsWrong)

/-- 'backstaylaw01.WordRoots': WHATEVER THE INPUT: true; the input reads as it did. -/
def wordRootsSpec : ChangeSpec := { name := "wordRoots", fn := fun _ => fun
  | [d] => { results := [.lit (.bool true)], args := [d] }
  | _ => none }
def wordRootsRow : OpenClaim := { program := "ytgfokemjoggebaa", sum := "d0a360073ed9f4f8db97aa0867e97e016ee6ddcac84150b2584391933c829ee5", func := "backstay/backstaylaw01.WordRoots", spec := "wordRoots", apart := false }
def WordRootsSaid : Prop := wordRootsRow.holds Try.pinned (OpenSpec.ofChange wordRootsSpec)

/-- ITS FALSE NEIGHBOUR: 'it returns false'. Refute it at one input. -/
def wordRootsWrong : ChangeSpec := { name := "wordRoots", fn := fun _ => fun
  | [d] => { results := [.lit (.bool false)], args := [d] }
  | _ => none }
def WordRootsWrongFalsely : Prop := wordRootsRow.holds Try.pinned (OpenSpec.ofChange wordRootsWrong)

/-- 'backstaylaw01.WordWide': WHATEVER THE INPUT: true; the input reads as it did. -/
def wordWideSpec : ChangeSpec := { name := "wordWide", fn := fun _ => fun
  | [d1, d2] => { results := [.lit (.bool true)], args := [d1, d2] }
  | _ => none }
def wordWideRow : OpenClaim := { program := "ytgfokemjoggebaa", sum := "d0a360073ed9f4f8db97aa0867e97e016ee6ddcac84150b2584391933c829ee5", func := "backstay/backstaylaw01.WordWide", spec := "wordWide", apart := false }
def WordWideSaid : Prop := wordWideRow.holds Try.pinned (OpenSpec.ofChange wordWideSpec)

/-- ITS FALSE NEIGHBOUR: 'it returns false'. Refute it at one input. -/
def wordWideWrong : ChangeSpec := { name := "wordWide", fn := fun _ => fun
  | [d1, d2] => { results := [.lit (.bool false)], args := [d1, d2] }
  | _ => none }
def WordWideWrongFalsely : Prop := wordWideRow.holds Try.pinned (OpenSpec.ofChange wordWideWrong)

/-- 'backstaylaw01.WordAdds': WHATEVER THE INPUT: true; the input reads as it did. -/
def wordAddsSpec : ChangeSpec := { name := "wordAdds", fn := fun _ => fun
  | [d1, d2] => { results := [.lit (.bool true)], args := [d1, d2] }
  | _ => none }
def wordAddsRow : OpenClaim := { program := "ytgfokemjoggebaa", sum := "d0a360073ed9f4f8db97aa0867e97e016ee6ddcac84150b2584391933c829ee5", func := "backstay/backstaylaw01.WordAdds", spec := "wordAdds", apart := false }
def WordAddsSaid : Prop := wordAddsRow.holds Try.pinned (OpenSpec.ofChange wordAddsSpec)

/-- ITS FALSE NEIGHBOUR: 'it returns false'. Refute it at one input. -/
def wordAddsWrong : ChangeSpec := { name := "wordAdds", fn := fun _ => fun
  | [d1, d2] => { results := [.lit (.bool false)], args := [d1, d2] }
  | _ => none }
def WordAddsWrongFalsely : Prop := wordAddsRow.holds Try.pinned (OpenSpec.ofChange wordAddsWrong)

/- THE SECOND FORM. 'bulk': how many values and letters a reading holds, each counted each time it is reached (what is shared counts as often as it is met; a slice's spare places count too). A statement '..UptoSaid' is the law's where the arguments, and the package variables that the reading takes, are together of bulk at most 1048576: NARROWER than '..Said'. Prove '..Said' where nothing that the law and all that it calls make is longer than what came in: it says more and counts as full. Else prove '..UptoSaid'. A law counts once. -/
mutual
def uptoBulk {H : Type} : DataW H → Nat
  | .lit (.string bytes) => bytes.length + 1
  | .lit _ => 1
  | .nil => 1
  | .ptr d => uptoBulk d + 1
  | .slice elems spare => uptoBulkAll elems + uptoBulkAll spare + 1
  | .agg parts => uptoBulkAll parts + 1
  | .iface _ d => uptoBulk d + 1
  | .map entries => uptoBulkEntries entries + 1
  | .held _ => 1
def uptoBulkAll {H : Type} : List (DataW H) → Nat
  | [] => 0
  | d :: r => uptoBulk d + uptoBulkAll r
def uptoBulkEntries {H : Type} : List (Lit × DataW H) → Nat
  | [] => 0
  | x :: r => uptoBulkEntry x + uptoBulkEntries r
def uptoBulkEntry {H : Type} : Lit × DataW H → Nat
  | (.string bytes, d) => bytes.length + uptoBulk d + 1
  | (_, d) => uptoBulk d + 1
 end
def uptoSmall : (H : Type) → List (DataW H) → Bool := fun _ ds => decide (uptoBulkAll ds ≤ 1048576)
def OpenSpec.upto (s : _root_.Go.ChangeSpec) : _root_.Go.OpenSpec := { _root_.Go.OpenSpec.ofChange s with cond := some uptoSmall }

/-- 'backstaylaw01.WordFloors', WHERE WHAT IT READS IS OF BULK AT MOST 1048576: true; the input reads as it did. -/
def wordFloorsUptoRow : OpenClaim := { program := "ytgfokemjoggebaa", sum := "d0a360073ed9f4f8db97aa0867e97e016ee6ddcac84150b2584391933c829ee5", func := "backstay/backstaylaw01.WordFloors", spec := "wordFloors", apart := false, narrowed := true }
def WordFloorsUptoSaid : Prop := wordFloorsUptoRow.holds Try.pinned (OpenSpec.upto wordFloorsSpec)

/-- 'backstaylaw01.WordBack', WHERE WHAT IT READS IS OF BULK AT MOST 1048576: true; the input reads as it did. -/
def wordBackUptoRow : OpenClaim := { program := "ytgfokemjoggebaa", sum := "d0a360073ed9f4f8db97aa0867e97e016ee6ddcac84150b2584391933c829ee5", func := "backstay/backstaylaw01.WordBack", spec := "wordBack", apart := false, narrowed := true }
def WordBackUptoSaid : Prop := wordBackUptoRow.holds Try.pinned (OpenSpec.upto wordBackSpec)

/-- 'backstaylaw01.WordNewer', WHERE WHAT IT READS IS OF BULK AT MOST 1048576: true; the input reads as it did. -/
def wordNewerUptoRow : OpenClaim := { program := "ytgfokemjoggebaa", sum := "d0a360073ed9f4f8db97aa0867e97e016ee6ddcac84150b2584391933c829ee5", func := "backstay/backstaylaw01.WordNewer", spec := "wordNewer", apart := false, narrowed := true }
def WordNewerUptoSaid : Prop := wordNewerUptoRow.holds Try.pinned (OpenSpec.upto wordNewerSpec)

/-- 'backstaylaw01.WordSums', WHERE WHAT IT READS IS OF BULK AT MOST 1048576: true; the input reads as it did. -/
def wordSumsUptoRow : OpenClaim := { program := "ytgfokemjoggebaa", sum := "d0a360073ed9f4f8db97aa0867e97e016ee6ddcac84150b2584391933c829ee5", func := "backstay/backstaylaw01.WordSums", spec := "wordSums", apart := false, narrowed := true }
def WordSumsUptoSaid : Prop := wordSumsUptoRow.holds Try.pinned (OpenSpec.upto wordSumsSpec)

/-- 'backstaylaw01.WordGets', WHERE WHAT IT READS IS OF BULK AT MOST 1048576: true; the input reads as it did. -/
def wordGetsUptoRow : OpenClaim := { program := "ytgfokemjoggebaa", sum := "d0a360073ed9f4f8db97aa0867e97e016ee6ddcac84150b2584391933c829ee5", func := "backstay/backstaylaw01.WordGets", spec := "wordGets", apart := false, narrowed := true }
def WordGetsUptoSaid : Prop := wordGetsUptoRow.holds Try.pinned (OpenSpec.upto wordGetsSpec)

/-- 'backstaylaw01.WordClamps', WHERE WHAT IT READS IS OF BULK AT MOST 1048576: true; the input reads as it did. -/
def wordClampsUptoRow : OpenClaim := { program := "ytgfokemjoggebaa", sum := "d0a360073ed9f4f8db97aa0867e97e016ee6ddcac84150b2584391933c829ee5", func := "backstay/backstaylaw01.WordClamps", spec := "wordClamps", apart := false, narrowed := true }
def WordClampsUptoSaid : Prop := wordClampsUptoRow.holds Try.pinned (OpenSpec.upto wordClampsSpec)

/-- 'backstaylaw01.WordRoots', WHERE WHAT IT READS IS OF BULK AT MOST 1048576: true; the input reads as it did. -/
def wordRootsUptoRow : OpenClaim := { program := "ytgfokemjoggebaa", sum := "d0a360073ed9f4f8db97aa0867e97e016ee6ddcac84150b2584391933c829ee5", func := "backstay/backstaylaw01.WordRoots", spec := "wordRoots", apart := false, narrowed := true }
def WordRootsUptoSaid : Prop := wordRootsUptoRow.holds Try.pinned (OpenSpec.upto wordRootsSpec)

/-- 'backstaylaw01.WordWide', WHERE WHAT IT READS IS OF BULK AT MOST 1048576: true; the input reads as it did. -/
def wordWideUptoRow : OpenClaim := { program := "ytgfokemjoggebaa", sum := "d0a360073ed9f4f8db97aa0867e97e016ee6ddcac84150b2584391933c829ee5", func := "backstay/backstaylaw01.WordWide", spec := "wordWide", apart := false, narrowed := true }
def WordWideUptoSaid : Prop := wordWideUptoRow.holds Try.pinned (OpenSpec.upto wordWideSpec)

/-- 'backstaylaw01.WordAdds', WHERE WHAT IT READS IS OF BULK AT MOST 1048576: true; the input reads as it did. -/
def wordAddsUptoRow : OpenClaim := { program := "ytgfokemjoggebaa", sum := "d0a360073ed9f4f8db97aa0867e97e016ee6ddcac84150b2584391933c829ee5", func := "backstay/backstaylaw01.WordAdds", spec := "wordAdds", apart := false, narrowed := true }
def WordAddsUptoSaid : Prop := wordAddsUptoRow.holds Try.pinned (OpenSpec.upto wordAddsSpec)

end Rows
end Go.Proofs.Ytgfokemjoggebaa
