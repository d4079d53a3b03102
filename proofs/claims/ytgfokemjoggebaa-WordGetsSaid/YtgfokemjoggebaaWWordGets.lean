/- The walk of the law WordGets: it answers true for every slice of bytes. -/
import Derived.Test.YtgfokemjoggebaaWord3
import Derived.Test.YtgfokemjoggebaaWordAwake
namespace Go.Proofs.Ytgfokemjoggebaa
open Go.RowKit
attribute [local irreducible] getN
set_option maxHeartbeats 400000 in
theorem wordGets_walk (a0 : Option Addr) (len0 cap0 : Nat) (z0 : List Int) (w : World) (w0 : IsRow .u8 w a0 len0 cap0 z0) :
    Calls Try.prog 7 #[.slice a0 len0 cap0] w fun e w' => e = .returned (.bool true) ∧ Below w.heap.size w w' := by
  obtain ⟨l, hl, hlc, hcm, hb, hs⟩ := isRow_nat w0 256 u8_bd
  clear w0
  subst hl
  unfold maxLen at hcm
  have hbh := hide hb
  have hsh := hide hs
  clear hb hs
  by_cases hbig : 1000 < l.length
  · go_enter Try.func7, Try.ntmps7
    go_wp2_with fail
    refine (word_awake _).mono ?_
    rintro e w' ⟨rfl, rfl⟩
    go_wp2_with fail
    go_ret
    exact ⟨rfl, Below.refl _ _⟩
  · go_enter Try.func7, Try.ntmps7
    go_wp2_with fail
    refine (word_awake _).mono ?_
    rintro e w' ⟨rfl, rfl⟩
    go_wp2_with fail
    refine (w_get a0 cap0 l _ hsh.out hbh.out hlc (by omega)).mono ?_
    rintro e w' ⟨rfl, rfl⟩
    go_wp2_with fail
    refine (r_get a0 cap0 l _ hsh.out hbh.out hlc (by omega)).mono ?_
    rintro e w' ⟨rfl, rfl⟩
    go_wp2_with fail
    go_ret
    exact ⟨ret_bool (by simp), Below.refl _ _⟩
end Go.Proofs.Ytgfokemjoggebaa
