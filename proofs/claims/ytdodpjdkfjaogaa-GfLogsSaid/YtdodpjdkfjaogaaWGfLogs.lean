/- The walk of the law GfLogs: it answers true for every byte and every number. -/
import Derived.Test.YtdodpjdkfjaogaaGfAwake
namespace Go.Proofs.Ytdodpjdkfjaogaa
open Go.RowKit
theorem zexp_log (a : Nat) (ha : a < 256) (a0 : a ≠ 0) : zexp (glog a : Nat) = a := by
  have hl := glog_lt a ha a0
  rw [zexp_eq, show ((glog a : Int) % 255).toNat = glog a by omega, gexp_glog a ha a0]
theorem zexp_iff (a : Nat) (n : Int) (ha : a < 256) (a0 : a ≠ 0) (h0 : 0 ≤ n) (h1 : n ≤ 254) : ((zexp n : Int) == a) = (n == glog a) := by
  have hl := glog_lt a ha a0
  rw [Bool.eq_iff_iff, beq_iff_eq, beq_iff_eq]
  constructor
  · intro h
    have h2 : zexp n = a := by omega
    have h3 : gexp n.toNat = gexp (glog a) := by
      rw [gexp_glog a ha a0, ← h2, zexp_eq, show (n % 255).toNat = n.toNat by omega]
    have := gexp_inj _ _ (by omega) hl h3
    omega
  · intro h
    rw [h, zexp_log a ha a0]
attribute [local irreducible] gexp gtbl glog rmul rinv rpow zexp
set_option maxRecDepth 100000 in
set_option maxHeartbeats 400000 in
theorem gfLogs_walk (a0 : Int) (n : Int) (w : World) (w0 : (Lit.int .u8 a0).wf = true) (w1 : (Lit.int .i64 n).wf = true) :
    Calls Try.prog 5 #[.int .u8 a0, .int .i64 n] w fun e w' => e = .returned (.bool true) ∧ Below w.heap.size w w' := by
  obtain ⟨a, rfl, ha⟩ := u8_nat w0
  obtain ⟨n1, n2⟩ := i64_bd w1
  clear w0 w1
  by_cases a0 : a = 0
  · subst a0
    go_enter Try.func5, Try.ntmps5
    go_wp2_with fail
    refine (gf_awake w).mono ?_
    rintro e w1 ⟨rfl, hb1⟩
    go_wp2_with fail
    refine (gf_new w1).mono ?_
    rintro e w' ⟨rfl, n, rfl⟩
    go_wp2_with fail
    refine (gf_log0 _ _).mono ?_
    rintro e w' ⟨rfl, rfl⟩
    go_wp2_with fail
    go_ret
    exact ⟨rfl, below_drewN ((hb1.alloc hb1.size _)) _⟩
  · have e0 : ((a : Int) == 0) = false := by simp; exact a0
    have hl := glog_lt a ha a0
    have hz := zexp_log a ha a0
    by_cases hn : 0 ≤ n ∧ n ≤ 254
    · obtain ⟨n3, n4⟩ := hn
      have hi := hide (zexp_iff a n ha a0 n3 n4)
      have hzh := hide hz
      clear hz
      go_enter Try.func5, Try.ntmps5
      go_wp2_with fail
      refine (gf_awake w).mono ?_
      rintro e w1 ⟨rfl, hb1⟩
      go_wp2_with fail
      refine (gf_new w1).mono ?_
      rintro e w' ⟨rfl, k, rfl⟩
      go_wp2_with fail
      refine (gf_log _ a _ (IsGf.made w1 _) ha a0).mono ?_
      rintro e w' ⟨rfl, m, rfl⟩
      go_wp2_with fail
      refine (gf_exp _ _ _ (IsGf.made w1 _) ⟨by omega, by omega⟩).mono ?_
      rintro e w' ⟨rfl, rfl⟩
      rw [hzh.out]
      go_wp2_with fail
      refine (gf_exp _ _ _ (IsGf.made w1 _) ⟨by omega, by omega⟩).mono ?_
      rintro e w' ⟨rfl, rfl⟩
      go_wp2_with fail
      go_ret
      exact ⟨ret_bool (by rw [hi.out]; simp), below_drewN ((hb1.alloc hb1.size _)) _⟩
    · have hn' : n < 0 ∨ 254 < n := by omega
      have hzh := hide hz
      clear hz hn
      rcases hn' with hn' | hn'
      all_goals
        go_enter Try.func5, Try.ntmps5
        go_wp2_with fail
        refine (gf_awake w).mono ?_
        rintro e w1 ⟨rfl, hb1⟩
        go_wp2_with fail
        refine (gf_new w1).mono ?_
        rintro e w' ⟨rfl, k, rfl⟩
        go_wp2_with fail
        refine (gf_log _ a _ (IsGf.made w1 _) ha a0).mono ?_
        rintro e w' ⟨rfl, m, rfl⟩
        go_wp2_with fail
        refine (gf_exp _ _ _ (IsGf.made w1 _) ⟨by omega, by omega⟩).mono ?_
        rintro e w' ⟨rfl, rfl⟩
        rw [hzh.out]
        go_wp2_with fail
        go_ret
        exact ⟨rfl, below_drewN ((hb1.alloc hb1.size _)) _⟩
end Go.Proofs.Ytdodpjdkfjaogaa
