/- The walk of the law WordRoots: it answers true for every word. -/
import Derived.Test.YtgfokemjoggebaaWord2
import Derived.Test.YtgfokemjoggebaaWordAwake
namespace Go.Proofs.Ytgfokemjoggebaa
open Go.RowKit
set_option maxRecDepth 100000 in
set_option maxHeartbeats 1000000 in
theorem wordRoots_walk (a0 : Int) (w : World) (w0 : (Lit.int .u64 a0).wf = true) :
    Calls Try.prog 9 #[.int .u64 a0] w fun e w' => e = .returned (.bool true) ∧ Below w.heap.size w w' := by
  obtain ⟨x, rfl, hx⟩ := u64_nat w0
  clear w0
  go_enter Try.func9, Try.ntmps9
  go_wp2_with fail
  refine (word_awake _).mono ?_
  rintro e w' ⟨rfl, rfl⟩
  go_wp2_with fail
  refine (w_root x _ hx).mono ?_
  rintro e w' ⟨r, hr, rfl, rfl⟩
  obtain ⟨hr1, hr2, hr3⟩ := hr
  have hm1 : IntKind.u64.wrap ((r : Int) * r) ≤ x := by
    have e : (r : Int) * r = ((r * r : Nat) : Int) := by simp
    rw [e, IntKind.wrap_u64]; omega
  go_wp2_with fail
  refine (w_log x _ hx).mono ?_
  rintro e w' ⟨n, hn, hn0, hn1, rfl, rfl⟩
  have hr3h := hide hr3
  have hn1h := Lib.hid hn1
  have hn0h := Lib.hid hn0
  clear hr3 hn1 hn0 hr2
  have h2 : r < 4294967295 → (x : Int) < IntKind.u64.wrap (((r : Int) + 1) * (r + 1)) := by
    intro h
    have h4 := hr3h.out.resolve_left (by omega)
    have e : ((r : Int) + 1) * (r + 1) = (((r + 1) * (r + 1) : Nat) : Int) := by simp
    have h5 : (r + 1) * (r + 1) ≤ 4294967295 * 4294967295 := Nat.mul_le_mul (by omega) (by omega)
    rw [e, IntKind.wrap_u64]; omega
  have h2h := Lib.hid h2
  clear h2
  have hp1 : 0 ≤ (r : Int) := by omega
  by_cases hlt : r < 4294967295
  · have hp2 : (r : Int) < 4294967295 := by omega
    have h3 := h2h.out hlt
    clear hlt h2h
    by_cases x0 : x = 0
    · subst x0
      have := hn0h.out rfl
      subst this
      generalize (r : Int) = ρ at *
      clear hr3h hr1
      go_wp2_with fail
      go_ret
      exact ⟨rfl, Below.refl _ _⟩
    · obtain ⟨h4, h5⟩ := hn1h.out x0
      have e0 : ((x : Int) == 0) = false := by simp; exact x0
      have h6 : Hid ((x : Int) / 2 ^ (n - 1) = 1) := hide (by have := congrArg (fun k : Nat => (k : Int)) h5; simpa using this)
      clear h5
      generalize (r : Int) = ρ at *
      clear hr3h hr1
      go_wp2_with fail
      go_ret
      exact ⟨ret_bool (by rw [h6.out]; rfl), Below.refl _ _⟩
  · have hp2 : (r : Int) ≤ 4294967295 := by omega
    have hp3 : 4294967295 ≤ (r : Int) := by omega
    have hd1 : decide (4294967295 < (r : Int)) = false := decide_eq_false (by omega)
    have hd2 : decide ((r : Int) < 4294967295) = false := decide_eq_false (by omega)
    clear hlt h2h hp1 hp2 hp3
    by_cases x0 : x = 0
    · subst x0
      have := hn0h.out rfl
      subst this
      generalize (r : Int) = ρ at *
      clear hr3h hr1
      go_wp2_with fail
      go_ret
      exact ⟨rfl, Below.refl _ _⟩
    · obtain ⟨h4, h5⟩ := hn1h.out x0
      have e0 : ((x : Int) == 0) = false := by simp; exact x0
      have h6 : Hid ((x : Int) / 2 ^ (n - 1) = 1) := hide (by have := congrArg (fun k : Nat => (k : Int)) h5; simpa using this)
      clear h5
      generalize (r : Int) = ρ at *
      clear hr3h hr1
      go_wp2_with fail
      go_ret
      exact ⟨ret_bool (by rw [h6.out]; rfl), Below.refl _ _⟩
end Go.Proofs.Ytgfokemjoggebaa
