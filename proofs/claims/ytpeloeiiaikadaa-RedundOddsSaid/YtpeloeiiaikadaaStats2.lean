/- The contracts of package stats' Trip, Wait, Score, Better, Need, and of the document's answer. Conditions: the state's numbers are as small as marks and trips leave them. -/
import Derived.Test.YtpeloeiiaikadaaStats
import Derived.Deep.RegionHeld3
namespace Go.Proofs.Ytpeloeiiaikadaa
open Go.RowKit
attribute [local irreducible] twZ tick8 clampZ floorZ satZ
theorem tick8_def (t : Int) : tick8 t = 8 * clampZ t 0 2000 := by unfold tick8; rfl
theorem clamp_bd2 (t : Int) : 0 ≤ clampZ t 0 2000 ∧ clampZ t 0 2000 ≤ 2000 := clampZ_bd t 0 2000 (by omega)
theorem abs_bd (t : Int) (h1 : -16000 ≤ t) (h2 : t ≤ 16000) : satZ (t.natAbs : Int) = (t.natAbs : Int) ∧ 0 ≤ satZ (t.natAbs : Int) ∧ satZ (t.natAbs : Int) ≤ 16000 := by
  rw [satZ_in _ (by omega) (by omega)]; exact ⟨rfl, by omega, by omega⟩
/-! ### the document's -/
def StRet (W : World) (s : StS) (e : Ending) (W' : World) : Prop := e = .returned (.agg (stA s)) ∧ Below W.heap.size W W'
theorem rst_info (s : StS) : (Try.prog.info? 42).map (·.size) = some (stA s).size := by
  have h : (Try.prog.info? 42).map (·.size) = some 5 := by kernel_rfl
  rw [h]; rfl
end Go.Proofs.Ytpeloeiiaikadaa
