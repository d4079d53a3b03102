import Derived.Test.YtmfagdbocidfjaaV05
import Derived.Test.YtmfagdbocidfjaaV06
/- Matrices as values: the contracts of Right (program's and document's), row, At, of the law's ref and none. Conditions: what is said of the slice. -/
namespace Go.Proofs.Ytmfagdbocidfjaa
open Go.RowKit
attribute [local irreducible] gexp gtbl glog rmul rinv rpow zexp mixF
/-! ### whole rows of three cells -/
set_option maxRecDepth 100000 in
theorem mx_info : (Try.prog.info? 188).map (·.size) = some 3 := by kernel_rfl
set_option maxRecDepth 100000 in
theorem mx_plain (k k' : IntKind) (r c : Int) (a : Option Addr) (n m : Nat) : Plain #[.int k r, .int k' c, .slice a n m] := by unfold Plain; simp [Value.oneCell']
set_option maxRecDepth 100000 in
theorem mx_size (x y z : Value) : #[x, y, z].size = 3 := rfl
set_option maxRecDepth 100000 in
theorem ld_m0 (v : Value) : Instr.loadAt 188 v = wLoad 188 v := rfl
set_option maxRecDepth 100000 in
theorem ld_m (w : World) (b : Nat) : (wLoad 188 (.pointer (some ⟨b, 0, none⟩))).run Try.prog w = loadAns 3 w (blk w b) (wLoadRes Try.prog 188 b w) := run_wLoad Try.underlying188 rfl mx_info w b
set_option maxRecDepth 100000 in
theorem sto_m0 (p x : Value) : Instr.storeAt 188 p x = wStore 188 p x := rfl
set_option maxRecDepth 100000 in
theorem sto_m (w : World) (b : Nat) (C : Array Value) : (wStore 188 (.pointer (some ⟨b, 0, none⟩)) (.agg C)).run Try.prog w = storeAns 3 w b C (blk w b) (wStoreRes Try.prog 188 b C w) := run_wStore mx_info w b C
set_option maxRecDepth 100000 in
theorem zeroM (w : World) : (zeroValue 188).run Try.prog w = .ok (.agg #[.int .i64 0, .int .i64 0, .slice none 0 0]) w := by kernel_rfl
set_option maxRecDepth 100000 in
theorem mulZ_bd (r c : Int) (h0 : 0 ≤ r) (h1 : r ≤ 255) (h2 : 0 ≤ c) (h3 : c ≤ 255) : 0 ≤ r * c ∧ r * c ≤ 65025 := ⟨Int.mul_nonneg h0 h2, by have := Int.mul_le_mul h1 h3 h2 (by decide : (0:Int) ≤ 255); omega⟩
/-- has it as many elements as it must? -/
def rightB (r c : Int) (len : Nat) : Bool := decide (0 ≤ r ∧ r ≤ 255 ∧ 0 ≤ c ∧ c ≤ 255 ∧ (len : Int) = r * c)
set_option maxRecDepth 100000 in
theorem below_one (w : World) (o : Obj) : Below w.heap.size w (w.alloc o) := (Below.refl _ _).alloc (Nat.le_refl _) _
set_option maxRecDepth 100000 in
set_option maxHeartbeats 1000000 in
theorem m_right (r c : Int) (a : Option Addr) (len cap : Nat) (w : World) :
    Calls Try.prog 117 #[.agg #[.int .i64 r, .int .i64 c, .slice a len cap]] w (Ret w (.bool (rightB r c len))) := by
  have hB := Lib.hid (below_one w (.cells #[.int .i64 r, .int .i64 c, .slice a len cap] 188))
  by_cases h0 : 0 ≤ r
  · have d0 : decide (0 ≤ r) = true := decide_eq_true h0
    by_cases h1 : 0 ≤ c
    · have d1 : decide (0 ≤ c) = true := decide_eq_true h1
      by_cases h2 : r ≤ 255
      · have d2 : decide (r ≤ 255) = true := decide_eq_true h2
        by_cases h3 : c ≤ 255
        · have d3 : decide (c ≤ 255) = true := decide_eq_true h3
          obtain ⟨p0, p1⟩ := mulZ_bd r c h0 h2 h1 h3
          have e : Hid (((len : Int) == r * c) = rightB r c len) := hide (by unfold rightB; rw [Bool.eq_iff_iff]; simp [h0, h1, h2, h3])
          have e1 : IntKind.i64.wrap (r * c) = r * c := IntWalk.i64_in _ (by omega)
          have e2 : wrap64 (r * c) = r * c := IntWalk.wrap64_in _ (by omega)
          generalize rightB r c len = b at *
          go_enter Try.func117, Try.ntmps117
          go_wp2_with fail
          go_ret
          exact ⟨by rw [← e.out]; rfl, hB.out⟩
        · have e : rightB r c len = false := by unfold rightB; exact decide_eq_false (by omega)
          have d3 : decide (c ≤ 255) = false := decide_eq_false h3
          rw [e]
          go_enter Try.func117, Try.ntmps117
          go_wp2_with fail
          go_ret
          exact ⟨rfl, hB.out⟩
      · have e : rightB r c len = false := by unfold rightB; exact decide_eq_false (by omega)
        have d3 : decide (r ≤ 255) = false := decide_eq_false h2
        rw [e]
        go_enter Try.func117, Try.ntmps117
        go_wp2_with fail
        go_ret
        exact ⟨rfl, hB.out⟩
    · have e : rightB r c len = false := by unfold rightB; exact decide_eq_false (by omega)
      have d3 : decide (0 ≤ c) = false := decide_eq_false h1
      rw [e]
      go_enter Try.func117, Try.ntmps117
      go_wp2_with fail
      go_ret
      exact ⟨rfl, hB.out⟩
  · have e : rightB r c len = false := by unfold rightB; exact decide_eq_false (by omega)
    have d3 : decide (0 ≤ r) = false := decide_eq_false h0
    rw [e]
    go_enter Try.func117, Try.ntmps117
    go_wp2_with fail
    go_ret
    exact ⟨rfl, hB.out⟩
/-! ### a matrix's elements -/
/-- a slice's elements, row by row -/
def MAt (w : World) (a : Option Addr) (R C : Nat) (F : Nat → Nat → Nat) : Prop := ∀ i k, i < R → k < C → ∃ b off, a = some ⟨b, off, none⟩ ∧ w.cell? ⟨b, off + (i * C + k), none⟩ = some (.int .u8 (F i k : Nat))
/-- row i's address -/
def rowA (a : Option Addr) (C i : Nat) : Option Addr := if C = 0 then a else a.map fun x => ⟨x.block, x.off + i * C, none⟩
set_option maxRecDepth 100000 in
theorem rowA_zero (a : Option Addr) (i : Nat) : rowA a 0 i = a := by unfold rowA; rw [if_pos rfl]
set_option maxRecDepth 100000 in
theorem rowA_pos (b off C i : Nat) (h : C ≠ 0) : rowA (some ⟨b, off, none⟩) C i = some ⟨b, off + i * C, none⟩ := by unfold rowA; rw [if_neg h]; rfl
set_option maxRecDepth 100000 in
theorem idx_lt {R C i k : Nat} (hi : i < R) (hk : k < C) : i * C + k < R * C := by
  have := Nat.mul_le_mul_right C (show i + 1 ≤ R by omega)
  rw [Nat.add_mul, Nat.one_mul] at this
  omega
set_option maxRecDepth 100000 in
theorem idx_row {R C i : Nat} (hi : i < R) : i * C + C ≤ R * C := by
  have := Nat.mul_le_mul_right C (show i + 1 ≤ R by omega)
  rw [Nat.add_mul, Nat.one_mul] at this
  exact this
set_option maxRecDepth 100000 in
theorem idx_inj {C i k i' k' : Nat} (hk : k < C) (hk' : k' < C) (h : i * C + k = i' * C + k') : i = i' ∧ k = k' := by
  have h1 : (i * C + k) / C = i := by rw [Nat.mul_comm, Nat.mul_add_div (by omega), Nat.div_eq_of_lt hk, Nat.add_zero]
  have h2 : (i' * C + k') / C = i' := by rw [Nat.mul_comm, Nat.mul_add_div (by omega), Nat.div_eq_of_lt hk', Nat.add_zero]
  have h3 : i = i' := by rw [← h1, ← h2, h]
  subst h3
  exact ⟨rfl, by omega⟩
set_option maxRecDepth 100000 in
theorem idx_le {R C i k : Nat} (hi : i < R) (hk : k < C) (hR : R ≤ 255) (hC : C ≤ 255) : i * C + k < 65025 := Nat.lt_of_lt_of_le (idx_lt hi hk) (Nat.mul_le_mul hR hC)
set_option maxRecDepth 100000 in
theorem rc_le {R C : Nat} (hR : R ≤ 255) (hC : C ≤ 255) : R * C ≤ 65025 := Nat.mul_le_mul hR hC
set_option maxRecDepth 100000 in
theorem MAt.below {w w' : World} {a : Option Addr} {R C : Nat} {F : Nat → Nat → Nat} (h : MAt w a R C F) (hb : Below w.heap.size w w') : MAt w' a R C F := by
  intro i k hi hk
  obtain ⟨b, off, hs, hc⟩ := h i k hi hk
  exact ⟨b, off, hs, by rw [hb.cell (p := ⟨b, off + (i * C + k), none⟩) (cell_block_lt hc)]; exact hc⟩
set_option maxRecDepth 100000 in
theorem MAt.row {w : World} {a : Option Addr} {R C : Nat} {F : Nat → Nat → Nat} (h : MAt w a R C F) (i : Nat) (hi : i < R) : By w (rowA a C i) C (F i) := by
  intro k hk
  obtain ⟨b, off, hs, hc⟩ := h i k hi hk
  subst hs
  exact ⟨b, off + i * C, rowA_pos b off C i (by omega), by rw [Nat.add_assoc]; exact hc⟩
set_option maxRecDepth 100000 in
theorem MAt.some {w : World} {a : Option Addr} {R C : Nat} {F : Nat → Nat → Nat} (h : MAt w a R C F) (hR : 0 < R) : C = 0 ∨ ∃ b off, a = some ⟨b, off, none⟩ := by
  by_cases hC : C = 0
  · exact .inl hC
  · obtain ⟨b, off, hs, _⟩ := h 0 0 hR (by omega)
    exact .inr ⟨b, off, hs⟩
set_option maxRecDepth 100000 in
set_option maxHeartbeats 1000000 in
theorem m_row (R C i : Nat) (a : Option Addr) (cap : Nat) (w : World) (ha : C = 0 ∨ ∃ b off, a = some ⟨b, off, none⟩) (hi : i < R) (hR : R ≤ 255) (hC : C ≤ 255) (hc : R * C ≤ cap) :
    Calls Try.prog 118 #[.agg #[.int .i64 (R : Nat), .int .i64 (C : Nat), .slice a (R * C) cap], .int .i64 (i : Nat)] w (Ret w (.slice (rowA a C i) C C)) := by
  have hB := Lib.hid (below_one w (.cells #[.int .i64 (R : Nat), .int .i64 (C : Nat), .slice a (R * C) cap] 188))
  have h1 := idx_row (C := C) hi
  have h2 := rc_le hR hC
  rcases ha with rfl | ⟨b, off, rfl⟩
  · rw [rowA_zero]
    simp only [Nat.mul_zero] at *
    go_enter Try.func118, Try.ntmps118
    go_wp2_with fail
    go_ret
    exact ⟨rfl, hB.out⟩
  · by_cases hC0 : C = 0
    · subst hC0
      rw [rowA_zero]
      simp only [Nat.mul_zero] at *
      go_enter Try.func118, Try.ntmps118
      go_wp2_with fail
      go_ret
      exact ⟨rfl, hB.out⟩
    · rw [rowA_pos b off C i hC0]
      have hn1 : ((i : Int) * (C : Int)) = ((i * C : Nat) : Int) := by simp
      have hn2 : (((i : Int) + 1) * (C : Int)) = ((i * C : Nat) : Int) + (C : Int) := by rw [Int.add_mul, hn1]; omega
      generalize R * C = L at *
      have e1 : wrap64 ((i : Int) * (C : Int)) = ((i * C : Nat) : Int) := by rw [hn1]; exact IntWalk.wrap64_in _ (by omega)
      have e2 : wrap64 (((i : Int) + 1) * (C : Int)) = ((i * C : Nat) : Int) + (C : Int) := by rw [hn2]; exact IntWalk.wrap64_in _ (by omega)
      have e3 : IntKind.i64.wrap ((i : Int) * (C : Int)) = ((i * C : Nat) : Int) := by rw [hn1]; exact IntWalk.i64_in _ (by omega)
      have e4 : IntKind.i64.wrap (((i : Int) + 1) * (C : Int)) = ((i * C : Nat) : Int) + (C : Int) := by rw [hn2]; exact IntWalk.i64_in _ (by omega)
      generalize i * C = q at *
      have hfin : Hid (Ending.returned (.slice (some ⟨b, off + q, none⟩) (q + C - q) (q + C - q)) = .returned (.slice (some ⟨b, off + q, none⟩) C C)) := hide (by rw [Nat.add_sub_cancel_left])
      clear hn1 hn2
      go_enter Try.func118, Try.ntmps118
      go_wp2_with fail
      go_ret
      exact ⟨hfin.out, hB.out⟩
end Go.Proofs.Ytmfagdbocidfjaa
