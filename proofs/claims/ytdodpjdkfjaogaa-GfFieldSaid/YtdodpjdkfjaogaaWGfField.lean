/- The walk of the law GfField: it answers true for every three bytes. -/
import Derived.Test.YtdodpjdkfjaogaaGfAwake
namespace Go.Proofs.Ytdodpjdkfjaogaa
open Go.RowKit
theorem xor_back (a b : Nat) : xorl [a, b, b] = a := by simp [xorl, Nat.xor_assoc]
theorem xor_two (a b : Nat) : xorl [a, b] = a ^^^ b := by simp [xorl]
/-- Mul, its answer told as another number that it equals. -/
theorem gf_mul_eq (p a b c : Nat) (w : World) (hg : IsGf w p) (ha : a < 256) (hb : b < 256) (h : rmul a b = c) :
    Calls Try.prog 11 #[.pointer (some ⟨p, 0, none⟩), .int .u8 a, .int .u8 b] w fun e w' => e = .returned (.int .u8 c) ∧ ∃ n, w' = w.drewN n := by
  subst h; exact gf_mul p a b w hg ha hb
theorem gf_mul_1 (p a : Nat) (w : World) (hg : IsGf w p) (ha : a < 256) :
    Calls Try.prog 11 #[.pointer (some ⟨p, 0, none⟩), .int .u8 a, .int .u8 1] w fun e w' => e = .returned (.int .u8 a) ∧ ∃ n, w' = w.drewN n :=
  gf_mul_eq p a 1 a w hg ha (by decide) (rmul_one a ha)
theorem gf_add3 (w : World) (B a b : Nat) (T : TypeId) (ha : a < 256) (hb : b < 256) (h : w.heap[B]? = some (.cells #[.int .u8 a, .int .u8 b, .int .u8 b] T (0, 0))) :
    Calls Try.prog 18 #[.slice (some ⟨B, 0, none⟩) 3 3] w fun e w' => e = .returned (.int .u8 a) ∧ w = w' := by
  have h := gf_add (some ⟨B, 0, none⟩) 3 [a, b, b] w (SlN.lit .u8 [a, b, b] h rfl) (by simp; omega) (by simp)
  rw [xor_back] at h
  exact h
theorem gf_add2 (w : World) (B a b c : Nat) (T : TypeId) (ha : a < 256) (hb : b < 256) (hc : a ^^^ b = c) (h : w.heap[B]? = some (.cells #[.int .u8 a, .int .u8 b] T (0, 0))) :
    Calls Try.prog 18 #[.slice (some ⟨B, 0, none⟩) 2 2] w fun e w' => e = .returned (.int .u8 c) ∧ w = w' := by
  have h := gf_add (some ⟨B, 0, none⟩) 2 [a, b] w (SlN.lit .u8 [a, b] h rfl) (by simp; omega) (by simp)
  rw [xor_two, hc] at h
  exact h
theorem gf_add0 (w : World) :
    Calls Try.prog 18 #[.slice none 0 0] w fun e w' => e = .returned (.int .u8 0) ∧ w = w' :=
  gf_add none 0 [] w (fun i x h => by simp at h) (by simp) (by simp)
attribute [local irreducible] gexp gtbl glog rmul rinv rpow zexp xorl
set_option maxRecDepth 100000 in
set_option maxHeartbeats 1000000 in
theorem gfField_walk (a0 : Int) (a1 : Int) (a2 : Int) (w : World) (w0 : (Lit.int .u8 a0).wf = true) (w1 : (Lit.int .u8 a1).wf = true) (w2 : (Lit.int .u8 a2).wf = true) :
    Calls Try.prog 6 #[.int .u8 a0, .int .u8 a1, .int .u8 a2] w fun e w' => e = .returned (.bool true) ∧ Below w.heap.size w w' := by
  obtain ⟨a, rfl, ha⟩ := u8_nat w0
  obtain ⟨b, rfl, hb⟩ := u8_nat w1
  obtain ⟨c, rfl, hc⟩ := u8_nat w2
  clear w0 w1 w2
  have h1 := rmul_lt a b
  have h2 := rmul_lt b c
  have h3 := rmul_lt a c
  have hx : b ^^^ c < 256 := Nat.xor_lt_two_pow (n := 8) hb hc
  have hcm := hide (rmul_comm b a hb ha)
  have has := hide (rmul_assoc a b c ha hb hc)
  have hdi := hide (rmul_xor_right a b c)
  have hne := Lib.hid (rmul_ne a b ha hb)
  go_enter Try.func6, Try.ntmps6
  go_wp2_with fail
  refine (gf_awake w).mono ?_
  rintro e w1 ⟨rfl, hb1⟩
  go_wp2_with fail
  refine (gf_new w1).mono ?_
  rintro e w' ⟨rfl, n, rfl⟩
  go_wp2_with fail
  refine (gf_mul _ a b _ (IsGf.made w1 _) ha hb).mono ?_
  rintro e w' ⟨rfl, m, rfl⟩
  go_wp2_with fail
  refine (gf_mul_eq _ b a (rmul a b) _ (IsGf.made w1 _) hb ha hcm.out).mono ?_
  rintro e w' ⟨rfl, m, rfl⟩
  go_wp2_with fail
  refine (gf_mul _ b c _ (IsGf.made w1 _) hb hc).mono ?_
  rintro e w' ⟨rfl, m, rfl⟩
  go_wp2_with fail
  refine (gf_mul_eq _ a (rmul b c) (rmul (rmul a b) c) _ (IsGf.made w1 _) ha h2 has.out).mono ?_
  rintro e w' ⟨rfl, m, rfl⟩
  go_wp2_with fail
  refine (gf_mul _ a b _ (IsGf.made w1 _) ha hb).mono ?_
  rintro e w' ⟨rfl, m, rfl⟩
  go_wp2_with fail
  refine (gf_mul _ (rmul a b) c _ (IsGf.made w1 _) h1 hc).mono ?_
  rintro e w' ⟨rfl, m, rfl⟩
  go_wp2_with fail
  refine (gf_mul_1 _ a _ (IsGf.made w1 _) ha).mono ?_
  rintro e w' ⟨rfl, m, rfl⟩
  go_wp2_with fail
  refine Calls.mono (gf_add3 _ _ a b 5 ha hb ?hb3) ?_
  case hb3 => exact last_block0 _ _ _ (by simp)
  rintro e w2 ⟨rfl, h2⟩
  have g2 : IsGf w2 w1.heap.size := by rw [← h2]; exact (IsGf.made w1 _).alloc _
  have b2 : Below w.heap.size w w2 := by
    rw [← h2]
    exact (below_drewN (hb1.alloc hb1.size _) _).alloc (by have := hb1.size; simp; omega) _
  clear h2
  go_wp2_with fail
  refine Calls.mono (gf_add0 _) ?_
  rintro e w' ⟨rfl, rfl⟩
  go_wp2_with fail
  refine Calls.mono (gf_add2 _ _ b c (b ^^^ c) 5 hb hc rfl ?hb2) ?_
  case hb2 => exact last_block0 _ _ _ rfl
  rintro e w3 ⟨rfl, h3⟩
  have g3 : IsGf w3 w1.heap.size := by rw [← h3]; exact g2.alloc _
  have b3 : Below w.heap.size w w3 := by rw [← h3]; exact b2.alloc b2.size _
  clear h3
  go_wp2_with fail
  refine (gf_mul_eq _ a (b ^^^ c) (rmul a b ^^^ rmul a c) _ g3 ha hx hdi.out).mono ?_
  rintro e w' ⟨rfl, m, rfl⟩
  go_wp2_with fail
  refine (gf_mul _ a b _ (g3.drewN _) ha hb).mono ?_
  rintro e w' ⟨rfl, m, rfl⟩
  go_wp2_with fail
  refine (gf_mul _ a c _ (g3.drewN _) ha hc).mono ?_
  rintro e w' ⟨rfl, m, rfl⟩
  go_wp2_with fail
  refine Calls.mono (gf_add2 _ _ (rmul a b) (rmul a c) (rmul a b ^^^ rmul a c) 5 h1 h3 rfl ?hb4) ?_
  case hb4 => exact last_block0 _ _ _ (by simp)
  rintro e w4 ⟨rfl, h4⟩
  have g4 : IsGf w4 w1.heap.size := by rw [← h4]; exact (g3.drewN _).alloc _
  have b4 : Below w.heap.size w w4 := by rw [← h4]; exact (below_drewN b3 _).alloc b3.size _
  clear h4
  go_wp2_with fail
  refine (gf_mul _ a b _ g4 ha hb).mono ?_
  rintro e w' ⟨rfl, m, rfl⟩
  go_wp2_with fail
  all_goals
    go_ret
    refine ⟨ret_bool ?_, below_drewN b4 _⟩
    have hn := hne.out
    first
      | rfl
      | (by_cases a0 : a = 0
         · simp [a0]
         · by_cases b0 : b = 0
           · simp [b0]
           · have hab := hn a0 b0
             exact absurd ‹rmul a b = 0› hab)
end Go.Proofs.Ytdodpjdkfjaogaa
