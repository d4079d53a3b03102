import Derived.Test.YtmfagdbocidfjaaV01
import Derived.Test.YtmfagdbocidfjaaV06
import Derived.Laws.Closers25b
import Derived.Test.YtmfagdbocidfjaaV28
import Derived.Test.YtmfagdbocidfjaaV05
import Derived.Test.YtmfagdbocidfjaaV09
import Derived.IntWalk
/- The contracts of package word: what each function computes, in plain integers. Conditions: the arguments are numbers of their kinds. -/
namespace Go.Proofs.Ytmfagdbocidfjaa
open Go.RowKit

/-- held at the limits of 64 bits -/
def satZ (n : Int) : Int := if 9223372036854775807 < n then 9223372036854775807 else if n < -9223372036854775808 then -9223372036854775808 else n
set_option maxRecDepth 100000 in
theorem satZ_bd (n : Int) : -9223372036854775808 ≤ satZ n ∧ satZ n ≤ 9223372036854775807 := by unfold satZ; split <;> (try split) <;> omega
set_option maxRecDepth 100000 in
theorem satZ_in (n : Int) (h1 : -9223372036854775808 ≤ n) (h2 : n ≤ 9223372036854775807) : satZ n = n := by unfold satZ; rw [if_neg (by omega), if_neg (by omega)]
set_option maxRecDepth 100000 in
theorem satZ_hi (n : Int) (h : 9223372036854775807 ≤ n) : satZ n = 9223372036854775807 := by unfold satZ; split <;> (try split) <;> omega
set_option maxRecDepth 100000 in
theorem satZ_lo (n : Int) (h : n ≤ -9223372036854775808) : satZ n = -9223372036854775808 := by unfold satZ; split <;> (try split) <;> omega
def I64 (a : Int) : Prop := -9223372036854775808 ≤ a ∧ a ≤ 9223372036854775807
attribute [local irreducible] satZ

set_option maxRecDepth 100000 in
set_option maxHeartbeats 400000 in
theorem w_add (a b : Int) (w : World) (ha : I64 a) (hb : I64 b) :
    Calls Try.prog 78 #[.int .i64 a, .int .i64 b] w fun e w' => e = .returned (.int .i64 (satZ (a + b))) ∧ w = w' := by
  obtain ⟨a1, a2⟩ := ha
  obtain ⟨b1, b2⟩ := hb
  go_enter Try.func78, Try.ntmps78
  go_wp2_with fail
  all_goals
    go_ret
    exact ⟨ret_int (by first | rw [satZ_in _ (by omega) (by omega)] | rw [satZ_hi _ (by omega)] | rw [satZ_lo _ (by omega)]), rfl⟩

set_option maxRecDepth 100000 in
set_option maxHeartbeats 400000 in
theorem w_sub (a b : Int) (w : World) (ha : I64 a) (hb : I64 b) :
    Calls Try.prog 79 #[.int .i64 a, .int .i64 b] w fun e w' => e = .returned (.int .i64 (satZ (a - b))) ∧ w = w' := by
  obtain ⟨a1, a2⟩ := ha
  obtain ⟨b1, b2⟩ := hb
  go_enter Try.func79, Try.ntmps79
  go_wp2_with fail
  all_goals
    go_ret
    exact ⟨ret_int (by first | rw [satZ_in _ (by omega) (by omega)] | rw [satZ_hi _ (by omega)] | rw [satZ_lo _ (by omega)]), rfl⟩

/-! ### quotients rounded down -/
/-- the quotient rounded down, held; 0 by 0 -/
def floorZ (a b : Int) : Int := if b = 0 then 0 else satZ (a.fdiv b)
/-- what it leaves; 0 by 0 -/
def restZ (a b : Int) : Int := if b = 0 then 0 else a.fmod b
set_option maxRecDepth 100000 in
theorem fdiv_of (a b : Int) (b0 : b ≠ 0) : a.fdiv b = a.tdiv b - (if a.tmod b ≠ 0 ∧ ¬ (a < 0 ↔ b < 0) then 1 else 0) := by
  rw [Int.fdiv_eq_tdiv]
  by_cases h : a.tmod b = 0
  · rw [if_pos (Int.dvd_of_tmod_eq_zero h), if_neg (by simp [h])]
  · rw [if_neg (fun e => h (Int.tmod_eq_zero_of_dvd e))]
    by_cases ha : 0 ≤ a <;> by_cases hb : 0 ≤ b
    · rw [if_pos ha, if_pos hb, if_neg (by omega)]
    · rw [if_pos ha, if_neg hb, if_pos (by omega)]
    · rw [if_neg ha, if_pos hb, if_pos (by omega), Int.sign_eq_one_of_pos (by omega)]
    · rw [if_neg ha, if_neg hb, if_neg (by omega), Int.sign_eq_neg_one_of_neg (by omega)]; omega
set_option maxRecDepth 100000 in
theorem tmod_sign (a b : Int) (h : a.tmod b ≠ 0) : a.tmod b < 0 ↔ a < 0 := by
  rcases Int.lt_or_le a 0 with ha | ha
  · have := Int.tmod_nonneg (a := -a) b (by omega)
    rw [Int.neg_tmod] at this
    omega
  · have := Int.tmod_nonneg (a := a) b ha
    omega
set_option maxRecDepth 100000 in
theorem tmod_abs (a b : Int) (b0 : b ≠ 0) : (a.tmod b).natAbs < b.natAbs := by
  rw [Int.natAbs_tmod]; exact Nat.mod_lt _ (by omega)
set_option maxRecDepth 100000 in
theorem fmod_of (a b : Int) (_b0 : b ≠ 0) : a.fmod b = a.tmod b + (if a.tmod b ≠ 0 ∧ ¬ (a.tmod b < 0 ↔ b < 0) then b else 0) := by
  rw [Int.fmod_eq_tmod]
  by_cases h : a.tmod b = 0
  · rw [if_pos (Int.dvd_of_tmod_eq_zero h), if_neg (by simp [h])]
  · have hs := tmod_sign a b h
    rw [if_neg (fun e => h (Int.tmod_eq_zero_of_dvd e))]
    by_cases ha : 0 ≤ a <;> by_cases hb : 0 ≤ b
    · rw [if_pos ha, if_pos hb, if_neg (by omega)]
    · rw [if_pos ha, if_neg hb, if_pos (by omega)]
    · rw [if_neg ha, if_pos hb, if_pos (by omega)]; omega
    · rw [if_neg ha, if_neg hb, if_neg (by omega)]; omega
set_option maxRecDepth 100000 in
theorem tdiv_bd (a b : Int) (ha : I64 a) (b0 : b ≠ 0) (bm : b ≠ -1) : I64 (a.tdiv b) ∧ (a.tmod b ≠ 0 → -4611686018427387904 ≤ a.tdiv b ∧ a.tdiv b ≤ 4611686018427387904) := by
  obtain ⟨a1, a2⟩ := ha
  by_cases b1 : b = 1
  · subst b1
    rw [Int.tdiv_one]
    exact ⟨⟨a1, a2⟩, fun h => absurd (by simp) h⟩
  · have h1 : (a.tdiv b).natAbs ≤ a.natAbs / 2 := by
      rw [Int.natAbs_tdiv]
      show a.natAbs / b.natAbs ≤ a.natAbs / 2
      exact Nat.div_le_div_left (by omega) (by decide)
    exact ⟨⟨by omega, by omega⟩, fun _ => ⟨by omega, by omega⟩⟩
set_option maxRecDepth 100000 in
theorem floor_same (a b : Int) (ha : I64 a) (b0 : b ≠ 0) (bm : b ≠ -1) (h : ¬ (a.tmod b ≠ 0 ∧ ¬ (a < 0 ↔ b < 0))) : wrap64 (a.tdiv b) = floorZ a b := by
  obtain ⟨⟨h1, h2⟩, _⟩ := tdiv_bd a b ha b0 bm
  unfold floorZ
  rw [if_neg b0, fdiv_of a b b0, if_neg h, Int.sub_zero, satZ_in _ h1 h2, IntWalk.wrap64_in _ ⟨by omega, by omega⟩]
set_option maxRecDepth 100000 in
theorem floor_less (a b : Int) (ha : I64 a) (b0 : b ≠ 0) (bm : b ≠ -1) (h : a.tmod b ≠ 0 ∧ ¬ (a < 0 ↔ b < 0)) : wrap64 (wrap64 (a.tdiv b) - 1) = floorZ a b := by
  obtain ⟨⟨h1, h2⟩, h3⟩ := tdiv_bd a b ha b0 bm
  obtain ⟨h4, h5⟩ := h3 h.1
  unfold floorZ
  rw [if_neg b0, fdiv_of a b b0, if_pos h, satZ_in _ (by omega) (by omega), IntWalk.wrap64_in (a.tdiv b) ⟨by omega, by omega⟩, IntWalk.wrap64_in _ ⟨by omega, by omega⟩]
set_option maxRecDepth 100000 in
theorem floor_m1 (a : Int) : satZ (-a) = floorZ a (-1) := by
  unfold floorZ
  rw [if_neg (by decide), fdiv_of a (-1) (by decide)]
  simp
set_option maxRecDepth 100000 in
theorem floor_0 (a : Int) : 0 = floorZ a 0 := rfl
set_option maxRecDepth 100000 in
theorem rest_0 (a : Int) : 0 = restZ a 0 := rfl
set_option maxRecDepth 100000 in
theorem rest_m1 (a : Int) : 0 = restZ a (-1) := by
  unfold restZ
  rw [if_neg (by decide), fmod_of a (-1) (by decide)]
  simp
set_option maxRecDepth 100000 in
theorem rest_same (a b : Int) (b0 : b ≠ 0) (h : ¬ (a.tmod b ≠ 0 ∧ ¬ (a.tmod b < 0 ↔ b < 0))) : a.tmod b = restZ a b := by
  unfold restZ; rw [if_neg b0, fmod_of a b b0, if_neg h, Int.add_zero]
set_option maxRecDepth 100000 in
theorem rest_more (a b : Int) (b0 : b ≠ 0) (hb : I64 b) (h : a.tmod b ≠ 0 ∧ ¬ (a.tmod b < 0 ↔ b < 0)) : wrap64 (a.tmod b + b) = restZ a b := by
  obtain ⟨b1, b2⟩ := hb
  have h1 := tmod_abs a b b0
  unfold restZ; rw [if_neg b0, fmod_of a b b0, if_pos h, IntWalk.wrap64_in _ ⟨by omega, by omega⟩]
set_option maxRecDepth 100000 in
theorem two_signs {x y z : Int} (h : (x != 0) = true ∧ (!decide (y < 0) == decide (z < 0)) = true) : x ≠ 0 ∧ ¬ (y < 0 ↔ z < 0) := by
  obtain ⟨h1, h2⟩ := h
  refine ⟨by simpa using h1, fun e => ?_⟩
  by_cases hy : y < 0 <;> by_cases hz : z < 0 <;> simp [hy, hz] at h2 <;> omega
set_option maxRecDepth 100000 in
theorem one_sign {x y z : Int} (h : (x != 0) = false ∨ (!decide (y < 0) == decide (z < 0)) = false) : ¬ (x ≠ 0 ∧ ¬ (y < 0 ↔ z < 0)) := by
  rintro ⟨h1, h2⟩
  rcases h with h | h
  · exact h1 (by simpa using h)
  · by_cases hy : y < 0 <;> by_cases hz : z < 0 <;> simp [hy, hz] at h <;> omega
attribute [local irreducible] floorZ restZ

/-! ### going round -/
/-- how far a is behind b, going round 32 bits -/
def behindZ (a b : Int) : Int := if (a - b) % 4294967296 < 2147483648 then (a - b) % 4294967296 else (a - b) % 4294967296 - 4294967296
set_option maxRecDepth 100000 in
theorem behindZ_bd (a b : Int) : -2147483648 ≤ behindZ a b ∧ behindZ a b < 2147483648 := by unfold behindZ; split <;> omega
set_option maxRecDepth 100000 in
theorem behind_wrap (a b : Int) : wrap64 (wrap32 ((a - b) % 4294967296)) = behindZ a b := by
  have h : wrap32 ((a - b) % 4294967296) = behindZ a b := by
    unfold wrap32 behindZ
    split <;> omega
  have := behindZ_bd a b
  rw [h, IntWalk.wrap64_in _ ⟨by omega, by omega⟩]
set_option maxRecDepth 100000 in
set_option maxHeartbeats 400000 in
theorem w_behind (a b : Int) (w : World) :
    Calls Try.prog 87 #[.int .u32 a, .int .u32 b] w fun e w' => e = .returned (.int .i64 (behindZ a b)) ∧ w = w' := by
  go_enter Try.func87, Try.ntmps87
  go_wp2_with fail
  go_ret
  exact ⟨ret_int (behind_wrap a b), rfl⟩
attribute [local irreducible] behindZ
end Go.Proofs.Ytmfagdbocidfjaa

/- The sums of bytes: the table, and a sum. Conditions: what the blocks hold. -/
namespace Go.Proofs.Ytmfagdbocidfjaa
open Go.RowKit
def CsRel (w : World) (v0 v9 : Value) (wr : World) : Prop := ∃ (i : Nat) (z : Int), i ≤ 8 ∧ v9 = .int .i64 (i : Nat) ∧ v0 = .int .u32 z ∧ w = wr
set_option maxRecDepth 100000 in
set_option maxHeartbeats 2000000 in
theorem c_step (r b : Int) (w : World) : Calls Try.prog 49 #[.int .u32 r, .int .u8 b] w (fun e w' => (∃ z, e = .returned (.int .u32 z)) ∧ w = w') := by
  go_enter Try.func49, Try.ntmps49
  go_upto_region 3 with (fail)
  go_loopw [0, 9] (fun v0 v9 wr => CsRel w v0 v9 wr) (fun _ v9 _ => 8 - (intOf v9).toNat)
  case atStart => exact ⟨0, _, by omega, rfl, rfl, rfl⟩
  case round =>
    obtain ⟨i, z, hi, rfl, rfl, rfl⟩ := hrel
    by_cases h : i < 8
    · have i1 : (i : Int) < 8 := by omega
      go_wp2_with fail
      all_goals
        refine ⟨?_, ?_⟩
        rotate_left
        · simp [intOf]; omega
        first
          | exact ⟨i + 1, _, by omega, by go_num, rfl, rfl⟩
          | (repeat (apply Exists.intro)
             exact ⟨⟨i + 1, _, by omega, by go_num, rfl, rfl⟩, rfl⟩)
    · obtain rfl : i = 8 := by omega
      go_wp2_with fail
      go_ret
      exact ⟨⟨_, rfl⟩, rfl⟩
/-- a table of sums -/
def tbA (T : Nat → Int) : Array Value := Array.ofFn (n := 256) (fun i => .int .u32 (T i))
set_option maxRecDepth 100000 in
theorem tbA_size (T : Nat → Int) : (tbA T).size = 256 := by unfold tbA; simp
set_option maxRecDepth 100000 in
theorem tbA_set (T : Nat → Int) {i : Nat} (z : Int) : (tbA T).setIfInBounds i (.int .u32 z) = tbA (fun j => if j = i then z else T j) := by
  apply Array.ext_getElem?
  intro j
  rw [Array.getElem?_setIfInBounds]
  unfold tbA
  by_cases hj : j < 256
  · by_cases e : i = j
    · subst e; simp [hj]
    · have e2 : ¬ j = i := fun h => e h.symm
      simp [hj, e, e2]
  · by_cases e : i = j
    · subst e; simp [hj]
    · simp [hj, e]
def TbAt (W : World) (t : Nat) (T : Nat → Int) : Prop := W.heap[t]? = some (.cells (tbA T) 110 (0, 0))
set_option maxRecDepth 100000 in
theorem TbAt.cell {W : World} {t : Nat} {T : Nat → Int} (h : TbAt W t T) {i : Nat} (hi : i < 256) : W.cell? ⟨t, i, none⟩ = some (.int .u32 (T i)) := by
  rw [cell_of_block h]
  unfold tbA
  simp [hi]
set_option maxRecDepth 100000 in
theorem TbAt.set {W : World} {t : Nat} {T : Nat → Int} (h : TbAt W t T) (i : Nat) (z : Int) : TbAt (W.setCell ⟨t, i, none⟩ (.int .u32 z)) t (fun j => if j = i then z else T j) := by
  unfold TbAt
  rw [blk_set h i _, tbA_set]
def tBuild (parts : Array (Nat × Value)) : Sem Value := Instr.build 110 parts
set_option maxRecDepth 100000 in
theorem tBuild_of (parts : Array (Nat × Value)) : Instr.build 110 parts = tBuild parts := by unfold tBuild; rfl
set_option maxRecDepth 100000 in
set_option maxHeartbeats 4000000 in
theorem tBuild_0 (w : World) : (tBuild #[]).run Try.prog w = .ok (.agg (tbA fun _ => 0)) w := by kernel_rfl
attribute [local irreducible] tbA tBuild
attribute [local go_sem ↓] tBuild_of
attribute [local go_sem] tBuild_0
def NewTPost (w : World) (e : Ending) (w' : World) : Prop := ∃ T, e = .returned (.pointer (some ⟨w.heap.size, 0, none⟩)) ∧ TbAt w' w.heap.size T ∧ Below w.heap.size w w'
def CnRel (w : World) (t : Nat) (v5 : Value) (wr : World) : Prop := ∃ (i : Nat) (T : Nat → Int), i ≤ 256 ∧ v5 = .int .i64 (i : Nat) ∧ TbAt wr t T ∧ Below w.heap.size w wr
set_option maxRecDepth 100000 in
set_option maxHeartbeats 4000000 in
theorem c_new (w : World) : Calls Try.prog 19 #[] w (NewTPost w) := by
  have h0 : Hid (TbAt (w.alloc (.cells (tbA fun _ => 0) 110)) w.heap.size (fun _ => 0)) := hide (by show (w.heap.push _)[w.heap.size]? = _; simp)
  have hB0 : Hid (Below w.heap.size w (w.alloc (.cells (tbA fun _ => 0) 110))) := hide ((Below.refl _ _).alloc (Nat.le_refl _) _)
  go_enter Try.func19, Try.ntmps19
  go_upto_region 2 with (fail)
  generalize World.alloc w _ = w0 at *
  obtain ⟨t, ht⟩ : ∃ t, w.heap.size = t := ⟨_, rfl⟩
  have hth := Lib.hid ht
  rw [ht] at h0 ⊢
  clear ht
  go_upto_region 3 with (fail)
  go_loopw [5] (fun v5 wr => CnRel w t v5 wr) (fun v5 _ => 256 - (intOf v5).toNat)
  case atStart => exact ⟨0, _, by omega, rfl, h0.out, hB0.out⟩
  case round =>
    clear h0 hB0
    obtain ⟨i, T, hi, rfl, hT, hB⟩ := hrel
    by_cases h : i < 256
    · have i1 : (i : Int) < 256 := by omega
      have hTh := Lib.hid hT
      have hBh := Lib.hid hB
      clear hT hB
      go_upto_region 5 with (fail)
      have hHeld : (fun _ : World => True) wr.drew := trivial
      refine h_begin 9 (fun _ => True) rfl (by kernel_rfl) trivial ?_
      first
        | (refine h_run (i := 0) (v := ?_) hHeld rfl (by kernel_rfl) (by kernel_rfl) (by kernel_rfl) ?_ ?_ ?_
           rotate_left
           · rfl
           · (intro x hSx; (try dsimp only at hSx); go_simp <;> with_reducible rfl)
           simp only [Act.put, List.setIfInBounds_toArray, List.set_cons_zero, List.set_cons_succ])
        | (refine h_skip (i := 0) hHeld rfl (by kernel_rfl) (by kernel_rfl) (by kernel_rfl) ?_ ?_
           · rfl
           simp only [Act.put, List.setIfInBounds_toArray, List.set_cons_zero, List.set_cons_succ])
      first
        | (refine h_run (i := 1) (v := ?_) hHeld rfl (by kernel_rfl) (by kernel_rfl) (by kernel_rfl) ?_ ?_ ?_
           rotate_left
           · rfl
           · (intro x hSx; (try dsimp only at hSx); go_simp <;> with_reducible rfl)
           simp only [Act.put, List.setIfInBounds_toArray, List.set_cons_zero, List.set_cons_succ])
        | (refine h_skip (i := 1) hHeld rfl (by kernel_rfl) (by kernel_rfl) (by kernel_rfl) ?_ ?_
           · rfl
           simp only [Act.put, List.setIfInBounds_toArray, List.set_cons_zero, List.set_cons_succ])
      first
        | (refine h_run (i := 2) (v := ?_) hHeld rfl (by kernel_rfl) (by kernel_rfl) (by kernel_rfl) ?_ ?_ ?_
           rotate_left
           · rfl
           · (intro x hSx; (try dsimp only at hSx); go_simp <;> with_reducible rfl)
           simp only [Act.put, List.setIfInBounds_toArray, List.set_cons_zero, List.set_cons_succ])
        | (refine h_skip (i := 2) hHeld rfl (by kernel_rfl) (by kernel_rfl) (by kernel_rfl) ?_ ?_
           · rfl
           simp only [Act.put, List.setIfInBounds_toArray, List.set_cons_zero, List.set_cons_succ])
      first
        | (refine h_run (i := 3) (v := ?_) hHeld rfl (by kernel_rfl) (by kernel_rfl) (by kernel_rfl) ?_ ?_ ?_
           rotate_left
           · rfl
           · (intro x hSx; (try dsimp only at hSx); go_simp <;> with_reducible rfl)
           simp only [Act.put, List.setIfInBounds_toArray, List.set_cons_zero, List.set_cons_succ])
        | (refine h_skip (i := 3) hHeld rfl (by kernel_rfl) (by kernel_rfl) (by kernel_rfl) ?_ ?_
           · rfl
           simp only [Act.put, List.setIfInBounds_toArray, List.set_cons_zero, List.set_cons_succ])
      first
        | (refine h_run (i := 5) (v := ?_) hHeld rfl (by kernel_rfl) (by kernel_rfl) (by kernel_rfl) ?_ ?_ ?_
           rotate_left
           · rfl
           · (intro x hSx; (try dsimp only at hSx); go_simp <;> with_reducible rfl)
           simp only [Act.put, List.setIfInBounds_toArray, List.set_cons_zero, List.set_cons_succ])
        | (refine h_skip (i := 5) hHeld rfl (by kernel_rfl) (by kernel_rfl) (by kernel_rfl) ?_ ?_
           · rfl
           simp only [Act.put, List.setIfInBounds_toArray, List.set_cons_zero, List.set_cons_succ])
      first
        | (refine h_run (i := 6) (v := ?_) hHeld rfl (by kernel_rfl) (by kernel_rfl) (by kernel_rfl) ?_ ?_ ?_
           rotate_left
           · rfl
           · (intro x hSx; (try dsimp only at hSx); go_simp <;> with_reducible rfl)
           simp only [Act.put, List.setIfInBounds_toArray, List.set_cons_zero, List.set_cons_succ])
        | (refine h_skip (i := 6) hHeld rfl (by kernel_rfl) (by kernel_rfl) (by kernel_rfl) ?_ ?_
           · rfl
           simp only [Act.put, List.setIfInBounds_toArray, List.set_cons_zero, List.set_cons_succ])
      refine h_call (i := 4) (fun _ => True) (fun _ h => h) (c_step 0 (IntKind.u8.wrap (i : Int)) wr.drew) rfl (by kernel_rfl) rfl ?_ ?_
      · go_simp <;> with_reducible rfl
      rintro _ w2 ⟨⟨z, rfl⟩, hw2⟩
      subst hw2
      refine ⟨_, rfl, trivial, ?_⟩
      try simp only [Act.put, List.setIfInBounds_toArray, List.set_cons_zero, List.set_cons_succ]
      have hTd : Hid (TbAt wr.drew t T) := hide hTh.out
      have hBd : Hid (Below w.heap.size w wr.drew) := hide (below_drewN hBh.out 1)
      have hHeld : (fun _ : World => True) wr.drew := trivial
      clear hTh hBh
      generalize wr.drew = wd at *
      first
        | (refine h_run (i := 7) (v := ?_) hHeld rfl (by kernel_rfl) (by kernel_rfl) (by kernel_rfl) ?_ ?_ ?_
           rotate_left
           · rfl
           · (intro x hSx; (try dsimp only at hSx); go_simp <;> with_reducible rfl)
           simp only [Act.put, List.setIfInBounds_toArray, List.set_cons_zero, List.set_cons_succ])
        | (refine h_skip (i := 7) hHeld rfl (by kernel_rfl) (by kernel_rfl) (by kernel_rfl) ?_ ?_
           · rfl
           simp only [Act.put, List.setIfInBounds_toArray, List.set_cons_zero, List.set_cons_succ])
      have cc := hTd.out.cell (i := i) (by omega)
      have fc := frozen_of_row _ t i _ _ hTd.out
      have hT9 := Lib.hid (hTd.out.set i z)
      have hB9 : Hid (Below w.heap.size w (wd.setCell ⟨t, i, none⟩ (.int .u32 z))) := hide (hBd.out.setCell (p := ⟨t, i, none⟩) (by show w.heap.size ≤ t; rw [hth.out]; exact Nat.le_refl _) _)
      refine h_write (i := 8) (w' := wd.setCell ⟨t, i, none⟩ (.int .u32 z)) (fun _ => True) (fun _ h => h) rfl (by kernel_rfl) rfl ?_ trivial ?_
      · go_simp <;> with_reducible rfl
      refine h_done (by kernel_rfl) ?_
      try simp only [Act.put, List.setIfInBounds_toArray, List.set_cons_zero, List.set_cons_succ]
      clear cc fc hTd hBd
      generalize World.setCell wd _ _ = w9 at *
      go_wp2_with fail
      refine ⟨?_, ?_⟩
      rotate_left
      · simp [intOf]; omega
      first
        | exact ⟨i + 1, _, by omega, by go_num, hT9.out, hB9.out⟩
        | (repeat (apply Exists.intro)
           exact ⟨⟨i + 1, _, by omega, by go_num, hT9.out, hB9.out⟩, rfl⟩)
    · obtain rfl : i = 256 := by omega
      have hend : Hid (NewTPost w (.returned (.pointer (some ⟨t, 0, none⟩))) wr) := hide ⟨T, by rw [hth.out], by rw [hth.out]; exact hT, hB⟩
      go_wp2_with fail
      go_ret
      exact hend.out
/-- one byte more -/
def restF (T : Nat → Int) (r b : Int) : Int := bits .xor .u32 (T (bits .xor .u8 (r % 256) b).toNat) (r / 256)
def restL (T : Nat → Int) : List Int → Int → Int
  | [], r => r
  | b :: l, r => restL T l (restF T r b)
set_option maxRecDepth 100000 in
theorem restL_app (T : Nat → Int) : ∀ (a : List Int) (b : Int) (r : Int), restL T (a ++ [b]) r = restF T (restL T a r) b
  | [], b, r => rfl
  | x :: a, b, r => by show restL T (a ++ [b]) (restF T r x) = _; rw [restL_app T a b]; rfl
def notF (s : Int) : Int := bits .xor .u32 IntKind.u32.max s
set_option maxRecDepth 100000 in
theorem notF_bd (s : Int) : 0 ≤ notF s ∧ notF s ≤ 4294967295 := ⟨bits_lo_u32 _ _ _, bits_hi_u32 _ _ _⟩
/-- the sum of bytes -/
def sumF (T : Nat → Int) (l : List Int) : Int := notF (restL T l (notF 0))
set_option maxRecDepth 100000 in
theorem sumF_bd (T : Nat → Int) (l : List Int) : 0 ≤ sumF T l ∧ sumF T l ≤ 4294967295 := notF_bd _
def CmRel (w : World) (T : Nat → Int) (l : List Int) (s : Int) (v7 v14 : Value) (wr : World) : Prop := ∃ j : Nat, j ≤ l.length ∧ v14 = .int .i64 (j : Nat) ∧ v7 = .int .u32 (restL T (l.take j) (notF s)) ∧ w = wr
set_option maxRecDepth 100000 in
set_option maxHeartbeats 4000000 in
theorem c_more (t : Nat) (T : Nat → Int) (a : Option Addr) (cap : Nat) (l : List Int) (s : Int) (w : World) (h : TbAt w t T) (hl : ∀ j x, l[j]? = some x → ∃ b off, a = some ⟨b, off, none⟩ ∧ w.cell? ⟨b, off + j, none⟩ = some (.int .u8 x)) (hn : l.length ≤ 100000) :
    Calls Try.prog 107 #[.pointer (some ⟨t, 0, none⟩), .int .u32 s, .slice a l.length cap] w (fun e w' => e = .returned (.int .u32 (notF (restL T l (notF s)))) ∧ w = w') := by
  have hh := Lib.hid h
  have hlh := Lib.hid hl
  clear h hl
  have hsg : IntKind.u32.signed = false := rfl
  have hnot : ∀ z, bits .xor .u32 IntKind.u32.max z = notF z := fun _ => rfl
  go_enter Try.func107, Try.ntmps107
  go_upto_region 3 with (fail)
  go_loopw [7, 14] (fun v7 v14 wr => CmRel w T l s v7 v14 wr) (fun _ v14 _ => l.length - (intOf v14).toNat)
  case atStart => exact ⟨0, by omega, rfl, rfl, rfl⟩
  case round =>
    obtain ⟨j, hj, rfl, rfl, rfl⟩ := hrel
    by_cases hlt : j < l.length
    · have i1 : (j : Int) < (l.length : Int) := by omega
      obtain ⟨x, hx1⟩ : ∃ x : Int, l[j]? = some x := ⟨_, List.getElem?_eq_getElem hlt⟩
      obtain ⟨b, off, rfl, hx⟩ := hlh.out j x hx1
      have hnx : Hid (restL T (l.take (j + 1)) (notF s) = restF T (restL T (l.take j) (notF s)) x) := hide (by rw [← restL_app, List.take_add_one, hx1]; rfl)
      generalize restL T (l.take j) (notF s) = r at *
      have hlo := bits_lo_u8 .xor (r % 256) x
      have hhi : bits .xor .u8 (r % 256) x < 256 := by have := bits_hi_u8 .xor (r % 256) x; omega
      have hc := hh.out.cell (i := (bits .xor .u8 (r % 256) x).toNat) (by omega)
      clear hx1
      go_wp2_with fail
      refine ⟨?_, ?_⟩
      rotate_left
      · simp [intOf]; omega
      refine ⟨j + 1, by omega, by go_num, ?_, rfl⟩
      rw [hnx.out]
      rfl
    · obtain rfl : j = l.length := by omega
      have i1 : decide ((l.length : Int) < (l.length : Int)) = false := decide_eq_false (by omega)
      rw [List.take_length]
      go_wp2_with fail
      go_ret
      exact ⟨rfl, rfl⟩
set_option maxRecDepth 100000 in
set_option maxHeartbeats 4000000 in
theorem c_sum (t : Nat) (T : Nat → Int) (a : Option Addr) (cap : Nat) (l : List Int) (w : World) (h : TbAt w t T) (hl : ∀ j x, l[j]? = some x → ∃ b off, a = some ⟨b, off, none⟩ ∧ w.cell? ⟨b, off + j, none⟩ = some (.int .u8 x)) (hn : l.length ≤ 100000) :
    Calls Try.prog 85 #[.pointer (some ⟨t, 0, none⟩), .slice a l.length cap] w (fun e w' => e = .returned (.int .u32 (sumF T l)) ∧ w = w') := by
  have hm := Lib.hid (c_more t T a cap l 0 w h hl hn)
  rw [show notF (restL T l (notF 0)) = sumF T l from rfl] at hm
  generalize sumF T l = z at *
  clear h hl
  go_enter Try.func85, Try.ntmps85
  go_wp2_with fail
  refine hm.out.mono ?_
  rintro e w1 ⟨rfl, rfl⟩
  go_wp2_with fail
  go_ret
  exact ⟨rfl, rfl⟩
end Go.Proofs.Ytmfagdbocidfjaa

/- Bytes with their sum behind them. Conditions: what the blocks hold. -/
namespace Go.Proofs.Ytmfagdbocidfjaa
open Go.RowKit
set_option maxRecDepth 100000 in
theorem wpList_val1 {P : Program} {ops : Array Oper} {rest : List Oper} {o : Oper} {a : Act} {w w' : World} {Q : Exit → Act → World → Prop} {v : Value} (hgd : o.guard = none)
    (he : (execOp a.eval o).run P w = .ok (.value v) w') (h : wpList P ops Q rest (a.put o.dst v) w') : wpList P ops Q (o :: rest) a w :=
  wpList_plain hgd fun _ hK => by
    unfold Oper.wp
    rw [he]
    exact hK _ _ h
/-- a sum's bytes, the lowest first -/
def le4 (s : Int) : List Int := [s % 256, s / 256 % 256, s / 65536 % 256, s / 16777216]
set_option maxRecDepth 100000 in
theorem row_cells {W : World} {lo n : Nat} {v : Value} {l : List Int} (h : VAt W lo 5 1 v n (bytesOf l)) {s : Option Addr} {k cap : Nat} (hv : v = .slice s k cap) : ∀ j x, l[j]? = some x → ∃ b off, s = some ⟨b, off, none⟩ ∧ W.cell? ⟨b, off + j, none⟩ = some (.int .u8 x) := fun j x hx => by
  have hg : (bytesOf l)[j]? = some (.int .u8 x) := by unfold bytesOf; rw [List.getElem?_map, hx]; rfl
  have hl := h.1
  rw [bytesOf_length] at hl
  have hj := (List.getElem?_eq_some_iff.1 hx).1
  rcases h.2.2 with ⟨e, h0⟩ | ⟨b, off, c, C, e, _⟩
  · omega
  · rw [hv] at e
    cases e
    exact ⟨b, off, rfl, by have := h.cells hv j _ hg; exact this⟩
set_option maxRecDepth 100000 in
theorem mk8cap (n : Nat) (hn : n ≤ 10000) (w : World) : (Instr.makeSlice 71 (.int .i64 (n : Int)) (.int .i64 ((n : Int) + 4))).run Try.prog w = .ok (.slice (some ⟨w.heap.size, 0, none⟩) n (n + 4)) (w.alloc (.cells (madeCells #[.int .u8 0] (n + 4)) 5)) := by
  obtain ⟨i0, hi, hz0, hz1, hz2⟩ := info_parts info_u8
  have h := run_make (P := Try.prog) w 71 5 i0 (.int .u8 0) Try.underlying71 hi hz0 .i64 .i64 (n : Int) ((n : Int) + 4) (by omega) (by omega) (by rw [hz2]; omega) (by omega)
  rw [show ((n : Int) + 4).toNat = n + 4 by omega, Int.toNat_natCast, hz1, Nat.mul_one] at h
  exact h
set_option maxRecDepth 100000 in
/-- the copy of a row in a new one, with room behind it -/
theorem seal_copy {w : World} {lo n : Nat} {v : Value} {l : List Int} (h : VAt w lo 5 1 v n (bytesOf l)) {b off cap : Nat} (hv : v = .slice (some ⟨b, off, none⟩) n cap) (hn : n ≤ 10000) (ty : TypeId) :
    ∃ W, (Builtin.copy_ #[71, 71] ty #[.slice (some ⟨w.heap.size, 0, none⟩) n (n + 4), v]).run Try.prog (w.alloc (.cells (madeCells #[.int .u8 0] (n + 4)) 5)) = .ok (goInt n) W ∧ Below w.heap.size w W ∧ w.heap.size < W.heap.size ∧
      VAt W w.heap.size 5 1 (.slice (some ⟨w.heap.size, 0, none⟩) n (n + 4)) n (bytesOf l) := by
  have hl : (bytesOf l).length = n := by have := h.1; omega
  have hs8 : (Try.prog.info? 5).map (·.size) = some 1 := by
    obtain ⟨i0, h1, _, h2, _⟩ := info_parts info_u8
    rw [h1]; simp [h2]
  have hB : Below w.heap.size w (w.alloc (.cells (madeCells #[.int .u8 0] (n + 4)) 5)) := (Below.refl _ _).alloc (Nat.le_refl _) _
  have hg : (w.alloc (.cells (madeCells #[.int .u8 0] (n + 4)) 5)).heap[w.heap.size]? = some (.cells (madeCells #[.int .u8 0] (n + 4)) 5 (0, 0)) := by show (w.heap.push _)[w.heap.size]? = _; simp
  have hr := run_copy_row (P := Try.prog) (w.alloc (.cells (madeCells #[.int .u8 0] (n + 4)) 5)) 71 71 ty 5 w.heap.size 0 n (n + 4) ⟨b, off, none⟩ n cap (madeCells #[.int .u8 0] (n + 4)) 5 (bytesOf l) Try.underlying71 hs8 hg (by rw [hl]; exact (Nat.min_self n).symm) (fun j u hj => by
    rw [Addr.add_lit]
    exact (h.below hB).cells hv j u hj) (by rw [size_madeCells, hl]; omega) (bytesOf_one l)
  rw [← hv, hl] at hr
  refine ⟨_, hr, below_setRow hB (Nat.le_refl _) _, by rw [size_setRow]; show w.heap.size < (w.heap.push _).size; rw [Array.size_push]; omega, ?_⟩
  refine ⟨by omega, bytesOf_one l, .inr ⟨w.heap.size, 0, n + 4, _, rfl, Nat.le_refl _, setRow_heap _ _ _ _ _ _ hg, by omega, by unfold maxLen; omega, fun _ => ?_, fun j u hj => ?_⟩⟩
  · simp [size_madeCells, hl]
    try omega
  · have hj2 := (List.getElem?_eq_some_iff.1 hj).1
    simp only [List.take_zero, List.nil_append, Nat.zero_add]
    rw [← Array.getElem?_toList, List.getElem?_append_left hj2]
    exact hj
/-- a row in a new block -/
def RowNew (W : World) (l : List Int) (e : Ending) (W' : World) : Prop := ∃ v', e = .returned v' ∧ VAt W' W.heap.size 5 1 v' l.length (bytesOf l) ∧ Below W.heap.size W W'
set_option maxRecDepth 100000 in
set_option maxHeartbeats 4000000 in
theorem c_seal (t : Nat) (T : Nat → Int) (b off cap lo : Nat) (l : List Int) (w : World) (h : TbAt w t T) (hl : VAt w lo 5 1 (.slice (some ⟨b, off, none⟩) l.length cap) l.length (bytesOf l)) (hn : l.length ≤ 2000) :
    Calls Try.prog 53 #[.pointer (some ⟨t, 0, none⟩), .slice (some ⟨b, off, none⟩) l.length cap] w (RowNew w (l ++ le4 (sumF T l))) := by
  have hmk := mk8cap l.length (by omega) w
  obtain ⟨W1, hr1, hB1, hs1, hv1⟩ := seal_copy hl rfl (by omega) 3
  have hr1h := Lib.hid hr1
  have hB1h := Lib.hid hB1
  have hv1h := Lib.hid hv1
  have hs1h := Lib.hid hs1
  have hT1 : Hid (TbAt W1 t T) := hide ((hB1.block t (Array.getElem?_eq_some_iff.1 h).1).trans h)
  have hl1 := Lib.hid (hl.below hB1)
  have hsum := Lib.hid (c_sum t T (some ⟨b, off, none⟩) cap l W1 hT1.out (row_cells hl1.out rfl) (by omega))
  have hw4 : IntKind.i64.wrap ((l.length : Int) + 4) = (l.length : Int) + 4 := IntWalk.i64_in _ (by omega)
  have hnh := Lib.hid hn
  have hbd := sumF_bd T l
  obtain ⟨s, hs⟩ : ∃ s, sumF T l = s := ⟨_, rfl⟩
  rw [hs] at hsum hbd ⊢
  clear h hl hr1 hB1 hs1 hv1 hs hn
  go_enter Try.func53, Try.ntmps53
  go_upto_region 2 with (fail)
  have hr1 := hr1h.out
  go_wp2_with fail
  clear hr1 hr1h hmk
  refine hsum.out.mono ?_
  rintro e w2 ⟨rfl, rfl⟩
  have hW : Hid (Below w.heap.size w (W1.alloc (.cells (bytesOf (le4 s)).toArray 5))) := hide (hB1h.out.alloc hB1h.out.size _)
  have hB2 : Below W1.heap.size W1 (W1.alloc (.cells (bytesOf (le4 s)).toArray 5)) := (Below.refl _ _).alloc (Nat.le_refl _) _
  have hblk : (W1.alloc (.cells (bytesOf (le4 s)).toArray 5)).heap[W1.heap.size]? = some (.cells (bytesOf (le4 s)).toArray 5 (0, 0)) := by show (W1.heap.push _)[W1.heap.size]? = _; simp
  obtain ⟨v', W', hr, hv, hg, hf, _⟩ := v_app (P := Try.prog) (S := 71) (T := 5) Try.underlying71 info_u8 rfl (by decide) (by decide) (hv1h.out.below hB2) hW.out.size ⟨W1.heap.size, 0, none⟩ 4 4 (bytesOf (le4 s)) (by rw [bytesOf_length]; rfl) (fun j u hj => by
    rw [Addr.add_lit, Nat.zero_add, cell_of_block hblk]
    simpa using hj) (bytesOf_one _) (by have := hnh.out; omega) 71
  have hrh := Lib.hid hr
  have hend : Hid (RowNew w (l ++ le4 s) (.returned v') W') := hide ⟨v', rfl, by rw [bytesOf_app, List.length_append]; exact hv, below_grown hW.out (Nat.le_refl _) hg (fun p hp => (Option.some.inj hp) ▸ Nat.le_refl _)⟩
  clear hr hv hg hf hblk hB2 hW
  go_wp2_with (at_builtin; refine wpList_app_runV rfl (.tmp 19) (.tmp 31) _ _ rfl rfl rfl hrh.out ?_)

  go_ret
  exact hend.out
end Go.Proofs.Ytmfagdbocidfjaa
