/- The walk of the law GfMuls: it answers true for every pair of bytes. -/
import Derived.Test.YtdodpjdkfjaogaaGfAwake
namespace Go.Proofs.Ytdodpjdkfjaogaa
open Go.RowKit
attribute [local irreducible] gexp gtbl glog rmul rinv rpow zexp
set_option maxRecDepth 100000 in
set_option maxHeartbeats 400000 in
theorem gfMuls_walk (a0 : Int) (a1 : Int) (w : World) (w0 : (Lit.int .u8 a0).wf = true) (w1 : (Lit.int .u8 a1).wf = true) :
    Calls Try.prog 3 #[.int .u8 a0, .int .u8 a1] w fun e w' => e = .returned (.bool true) ∧ Below w.heap.size w w' := by
  obtain ⟨a, rfl, ha⟩ := u8_nat w0
  obtain ⟨b, rfl, hb⟩ := u8_nat w1
  go_enter Try.func3, Try.ntmps3
  go_wp2_with fail
  refine (gf_awake w).mono ?_
  rintro e w1 ⟨rfl, hb1⟩
  go_outline
  go_wp2_with fail
  refine (gf_new w1).mono ?_
  rintro e w' ⟨rfl, n, rfl⟩
  go_wp2_with fail
  refine (gf_mul _ a b _ (IsGf.made w1 n) ha hb).mono ?_
  rintro e w' ⟨rfl, m, rfl⟩
  go_wp2_with fail
  refine (ref_mul a b _ ha hb).mono ?_
  rintro e w' ⟨rfl, rfl⟩
  go_wp2_with fail
  go_ret
  exact ⟨ret_bool (by simp), below_drewN ((hb1.alloc hb1.size _)) _⟩
end Go.Proofs.Ytdodpjdkfjaogaa
