/- The walk of the law GfDivides: it answers true for every pair of bytes. -/
import Derived.Test.YtdodpjdkfjaogaaGfAwake
namespace Go.Proofs.Ytdodpjdkfjaogaa
open Go.RowKit
theorem div_back (a b : Nat) (ha : a < 256) (hb : b < 256) (b0 : b ≠ 0) : rmul (rmul a (rinv b)) b = a := by
  rw [← rmul_assoc a (rinv b) b ha (rinv_lt b) hb, rmul_comm (rinv b) b (rinv_lt b) hb, rmul_rinv b hb b0, rmul_one a ha]
attribute [local irreducible] gexp gtbl glog rmul rinv rpow zexp
set_option maxRecDepth 100000 in
set_option maxHeartbeats 400000 in
theorem gfDivides_walk (a0 : Int) (a1 : Int) (w : World) (w0 : (Lit.int .u8 a0).wf = true) (w1 : (Lit.int .u8 a1).wf = true) :
    Calls Try.prog 4 #[.int .u8 a0, .int .u8 a1] w fun e w' => e = .returned (.bool true) ∧ Below w.heap.size w w' := by
  obtain ⟨a, rfl, ha⟩ := u8_nat w0
  obtain ⟨b, rfl, hb⟩ := u8_nat w1
  clear w0 w1
  by_cases b0 : b = 0
  · subst b0
    go_enter Try.func4, Try.ntmps4
    go_wp2_with fail
    refine (gf_awake w).mono ?_
    rintro e w1 ⟨rfl, hb1⟩
    go_wp2_with fail
    refine (gf_new w1).mono ?_
    rintro e w' ⟨rfl, n, rfl⟩
    go_wp2_with fail
    refine (gf_inv0 _ _).mono ?_
    rintro e w' ⟨rfl, rfl⟩
    go_wp2_with fail
    refine (gf_div0 _ _ _).mono ?_
    rintro e w' ⟨rfl, rfl⟩
    go_wp2_with fail
    go_ret
    exact ⟨rfl, below_drewN ((hb1.alloc hb1.size _)) _⟩
  · have e0 : ((b : Int) == 0) = false := by simp; exact b0
    have hi := rinv_lt b
    have hq := rmul_lt a (rinv b)
    have hd := hide (div_back a b ha hb b0)
    go_enter Try.func4, Try.ntmps4
    go_wp2_with fail
    refine (gf_awake w).mono ?_
    rintro e w1 ⟨rfl, hb1⟩
    go_wp2_with fail
    refine (gf_new w1).mono ?_
    rintro e w' ⟨rfl, n, rfl⟩
    go_wp2_with fail
    refine (gf_inv _ b _ (IsGf.made w1 _) hb b0).mono ?_
    rintro e w' ⟨rfl, m, rfl⟩
    go_wp2_with fail
    refine (gf_div _ a b _ (IsGf.made w1 _) ha hb b0).mono ?_
    rintro e w' ⟨rfl, m, rfl⟩
    go_wp2_with fail
    refine (ref_inv b _ hb).mono ?_
    rintro e w' ⟨rfl, rfl⟩
    go_wp2_with fail
    refine (ref_inv b _ hb).mono ?_
    rintro e w' ⟨rfl, rfl⟩
    go_wp2_with fail
    refine (ref_mul a (rinv b) _ ha hi).mono ?_
    rintro e w' ⟨rfl, rfl⟩
    go_wp2_with fail
    refine (gf_mul _ (rmul a (rinv b)) b _ (IsGf.made w1 _) hq hb).mono ?_
    rintro e w' ⟨rfl, m, rfl⟩
    go_wp2_with fail
    go_ret
    exact ⟨ret_bool (by simp [hd.out]), below_drewN ((hb1.alloc hb1.size _)) _⟩
end Go.Proofs.Ytdodpjdkfjaogaa
