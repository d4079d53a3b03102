/- The walk of the law WordSums: it answers true for every slice of numbers. -/
import Derived.Test.YtgfokemjoggebaaWord4
import Derived.Test.YtgfokemjoggebaaWide3
import Derived.Test.YtgfokemjoggebaaWordAwake
namespace Go.Proofs.Ytgfokemjoggebaa
open Go.RowKit
attribute [local irreducible] satZ sumZ
set_option maxHeartbeats 400000 in
theorem wordSums_walk (a0 : Option Addr) (len0 cap0 : Nat) (z0 : List Int) (w : World) (w0 : IsRow .i64 w a0 len0 cap0 z0) :
    Calls Try.prog 6 #[.slice a0 len0 cap0] w fun e w' => e = .returned (.bool true) ∧ Below w.heap.size w w' := by
  obtain ⟨l, hl, hlc, hcm, hb, hs⟩ := isRow_int w0
  clear w0
  subst hl
  unfold maxLen at hcm
  have hbh : Hid (∀ x ∈ l, I64 x) := hide (fun x hx => i64_bd (hb x hx))
  have hsh := hide hs
  clear hb hs
  by_cases hbig : 300 < l.length
  · go_enter Try.func6, Try.ntmps6
    go_wp2_with fail
    refine (word_awake _).mono ?_
    rintro e w' ⟨rfl, rfl⟩
    go_wp2_with fail
    go_ret
    exact ⟨rfl, Below.refl _ _⟩
  · go_enter Try.func6, Try.ntmps6
    go_wp2_with fail
    refine (word_awake _).mono ?_
    rintro e w' ⟨rfl, rfl⟩
    go_wp2_with fail
    go_loopw [3, 4] (fun v i wr => ∃ k : Nat, k ≤ l.length ∧ i = .int .i64 k ∧ v = .int .i64 (sumZ (l.take k)) ∧ Below w.heap.size w wr) (fun _ i _ => l.length - (intOf i).toNat)
    case atStart => exact ⟨0, by omega, rfl, by rw [List.take_zero, sumZ_nil], Below.refl _ _⟩
    case round =>
      obtain ⟨k, hk, rfl, rfl, hbel⟩ := hrel
      have hs2 := hide (hsh.out.below hbel)
      by_cases hlt : k < l.length
      · obtain ⟨x, hx⟩ : ∃ x, l[k]? = some x := ⟨_, List.getElem?_eq_getElem hlt⟩
        obtain ⟨b, off, rfl, hc⟩ := hs2.out k x hx
        have hx2 := hbh.out x (List.mem_of_getElem? hx)
        have hx1 := sumZ_bd l k
        have he := hide (sumZ_take l k x hx)
        clear hx
        go_wp2_with fail
        refine (r_add _ x _ hx1 hx2).mono ?_
        rintro e w1 ⟨rfl, hB⟩
        go_wp2_with fail
        rw [← he.out]
        go_roundw
        case rel => exact ⟨k + 1, by omega, by go_num, rfl, hbel.trans (hB.mono hbel.size)⟩
        case measure => simp [intOf]; omega
      · obtain rfl : k = l.length := by omega
        go_wp2_with fail
        refine (w_sum a0 cap0 l _ hs2.out hbh.out (by omega)).mono ?_
        rintro e w' ⟨rfl, rfl⟩
        go_wp2_with fail
        go_ret
        exact ⟨ret_bool (by simp), hbel⟩
end Go.Proofs.Ytgfokemjoggebaa
