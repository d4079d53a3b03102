/- The document's Take and Bits of layer 8, over the state by value: 69 cells. Conditions: the counts are small. -/
import Derived.Test.YtickioeepicgcaaSeq3
namespace Go.Proofs.Ytickioeepicgcaa
open Go.RowKit
/-- the state's cells in the document's form: the marks one by one -/
def rkA (s : SqS) : Array Value :=
  ([.bool s.any, .int .u32 s.top] ++ (List.range 64).map (fun i => .bool (s.m i)) ++ [.int .i64 s.came, .int .i64 s.tw, .int .i64 s.lost] : List Value).toArray
theorem rkA_size (s : SqS) : (rkA s).size = 69 := by simp [rkA]
theorem rkA_sz (s t : SqS) : (rkA s).size = (rkA t).size := by rw [rkA_size, rkA_size]
theorem rkA_one (s : SqS) : (rkA s).all (·.oneCell') = true := by
  rw [Array.all_eq_true']
  intro x hx
  simp only [rkA, List.mem_toArray, List.mem_append, List.mem_map, List.mem_cons, List.not_mem_nil, or_false] at hx
  rcases hx with ((rfl | rfl) | ⟨i, _, rfl⟩) | (rfl | rfl | rfl) <;> rfl
theorem rk_info69 : (Try.prog.info? 30).map (·.size) = some 69 := by kernel_rfl
theorem rk_info (s : SqS) : (Try.prog.info? 30).map (·.size) = some (rkA s).size := by rw [rkA_size]; exact rk_info69
theorem rkA_0 (s : SqS) : (rkA s)[0]? = some (.bool s.any) := by simp [rkA]
theorem rkA_1 (s : SqS) : (rkA s)[1]? = some (.int .u32 s.top) := by simp [rkA]
theorem rkA_m (s : SqS) (i : Nat) (h : i < 64) : (rkA s)[2 + i]? = some (.bool (s.m i)) := by
  unfold rkA
  rw [List.getElem?_toArray, List.append_assoc, List.getElem?_append_right (by simp), List.getElem?_append_left (by simp; omega), List.getElem?_map]
  simp [h]
theorem rkA_66 (s : SqS) : (rkA s)[66]? = some (.int .i64 s.came) := by simp [rkA]
theorem rkA_67 (s : SqS) : (rkA s)[67]? = some (.int .i64 s.tw) := by simp [rkA]
theorem rkA_68 (s : SqS) : (rkA s)[68]? = some (.int .i64 s.lost) := by simp [rkA]
theorem rkA_ext (s : SqS) (c : Array Value) (hs : c.size = 69) (h : ∀ i, i < 69 → c[i]? = (rkA s)[i]?) : c = rkA s := by
  apply Array.ext_getElem?
  intro i
  by_cases hi : i < 69
  · exact h i hi
  · rw [Array.getElem?_eq_none (by omega), Array.getElem?_eq_none (by rw [rkA_size]; omega)]
theorem rkA_at (s : SqS) (i : Nat) : i < 69 → (rkA s)[i]? = some (if i = 0 then .bool s.any else if i = 1 then .int .u32 s.top else if i < 66 then .bool (s.m (i - 2)) else if i = 66 then .int .i64 s.came else if i = 67 then .int .i64 s.tw else .int .i64 s.lost) := by
  intro h
  by_cases h0 : i = 0
  · subst h0; rw [rkA_0]; rfl
  by_cases h1 : i = 1
  · subst h1; rw [rkA_1]; rfl
  rw [if_neg h0, if_neg h1]
  by_cases h2 : i < 66
  · rw [if_pos h2]
    have := rkA_m s (i - 2) (by omega)
    rw [show 2 + (i - 2) = i by omega] at this
    exact this
  rw [if_neg h2]
  by_cases h3 : i = 66
  · subst h3; rw [rkA_66]; rfl
  rw [if_neg h3]
  by_cases h4 : i = 67
  · subst h4; rw [rkA_67]; rfl
  rw [if_neg h4]
  obtain rfl : i = 68 := by omega
  exact rkA_68 s
theorem rk_set (s t : SqS) (j : Nat) (v : Value) (hv : (rkA t)[j]? = some v) (h : ∀ i, i < 69 → i ≠ j → (rkA s)[i]? = (rkA t)[i]?) : (rkA s).setIfInBounds j v = rkA t := by
  apply rkA_ext
  · rw [Array.size_setIfInBounds, rkA_size]
  · intro i hi
    by_cases e : i = j
    · subst e; rw [hv, Array.getElem?_setIfInBounds_self_of_lt (by rw [rkA_size]; exact hi)]
    · rw [Array.getElem?_setIfInBounds_ne (fun x => e x.symm)]; exact h i hi e
theorem rkA_s0 (s : SqS) (b : Bool) : (rkA s).setIfInBounds 0 (.bool b) = rkA { s with any := b } := rk_set _ _ _ _ (rkA_0 _) (fun i hi e => by rw [rkA_at _ i hi, rkA_at _ i hi, if_neg e, if_neg e])
theorem rkA_s1 (s : SqS) (x : Int) : (rkA s).setIfInBounds 1 (.int .u32 x) = rkA { s with top := x } := rk_set _ _ _ _ (rkA_1 _) (fun i hi e => by rw [rkA_at _ i hi, rkA_at _ i hi, if_neg e, if_neg e])
theorem rkA_s66 (s : SqS) (x : Int) : (rkA s).setIfInBounds 66 (.int .i64 x) = rkA { s with came := x } := rk_set _ _ _ _ (rkA_66 _) (fun i hi e => by rw [rkA_at _ i hi, rkA_at _ i hi, if_neg e, if_neg e])
theorem rkA_s67 (s : SqS) (x : Int) : (rkA s).setIfInBounds 67 (.int .i64 x) = rkA { s with tw := x } := rk_set _ _ _ _ (rkA_67 _) (fun i hi e => by rw [rkA_at _ i hi, rkA_at _ i hi, if_neg e, if_neg e])
theorem rkA_s68 (s : SqS) (x : Int) : (rkA s).setIfInBounds 68 (.int .i64 x) = rkA { s with lost := x } := rk_set _ _ _ _ (rkA_68 _) (fun i hi e => by
  rw [rkA_at _ i hi, rkA_at _ i hi]
  by_cases h2 : i < 66
  · simp only [h2, if_true]
  · have h0 : i ≠ 0 := by omega
    have h1 : i ≠ 1 := by omega
    rw [if_neg h0, if_neg h1, if_neg h2, if_neg h0, if_neg h1, if_neg h2]
    by_cases h3 : i = 66
    · rw [if_pos h3, if_pos h3]
    · rw [if_neg h3, if_neg h3, if_pos (by omega), if_pos (by omega)])
theorem rkA_sm (s : SqS) (j : Nat) (b : Bool) (hj : j < 64) : (rkA s).setIfInBounds (2 + j) (.bool b) = rkA { s with m := fun i => if i = j then b else s.m i } := rk_set _ _ _ _ (by rw [rkA_m _ j hj]; simp) (fun i hi e => by
  rw [rkA_at _ i hi, rkA_at _ i hi]
  have : i ≥ 2 → ¬ (i - 2 = j) := fun _ h => e (by omega)
  by_cases h0 : i = 0
  · rw [if_pos h0, if_pos h0]
  by_cases h1 : i = 1
  · rw [if_neg h0, if_neg h0, if_pos h1, if_pos h1]
  simp only [this (by omega), if_false])
theorem rkA_congr (s t : SqS) (h0 : s.any = t.any) (h1 : s.top = t.top) (hm : ∀ i, i < 64 → s.m i = t.m i) (h2 : s.came = t.came) (h3 : s.tw = t.tw) (h4 : s.lost = t.lost) : rkA s = rkA t := by
  apply rkA_ext _ _ (rkA_size _)
  intro i hi
  rw [rkA_at _ i hi, rkA_at _ i hi, h0, h1, h2, h3, h4]
  by_cases h5 : i < 66
  · by_cases h6 : i < 2
    · have : i = 0 ∨ i = 1 := by omega
      rcases this with rfl | rfl <;> rfl
    · rw [hm (i - 2) (by omega)]
  · simp only [h5, if_false]
def zS : SqS := ⟨false, 0, fun _ => false, 0, 0, 0⟩
theorem zeroRk (w : World) : (zeroValue 30).run Try.prog w = .ok (.agg (rkA zS)) w := by kernel_rfl
attribute [local irreducible] rkA
/-! ### Bits -/
theorem bwD_0 (m : Nat → Bool) : bwD m 0 = 0 := rfl
theorem bwD_yes (m : Nat → Bool) (d : Nat) (h : m (63 - d) = true) : bwD m (d + 1) = bwD m d * 2 + 1 := by simp only [bwD]; rw [h]; simp; omega
theorem bwD_no (m : Nat → Bool) (d : Nat) (h : m (63 - d) = false) : bwD m (d + 1) = bwD m d * 2 := by simp only [bwD]; rw [h]; simp; omega
end Go.Proofs.Ytickioeepicgcaa
