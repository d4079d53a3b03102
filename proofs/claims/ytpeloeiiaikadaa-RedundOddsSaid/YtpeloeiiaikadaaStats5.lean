/- The contracts of the document's Need, of package stats' Better, of the law's Same and awake. Conditions: the state's numbers are as small as marks and trips leave them. -/
import Derived.Test.YtpeloeiiaikadaaStats4
namespace Go.Proofs.Ytpeloeiiaikadaa
open Go.RowKit
attribute [local irreducible] twZ tick8 clampZ floorZ satZ cdZ
theorem nd_mid (D limit : Int) (k : Nat) (hk : (k : Int) ≤ max limit 0) (hD : (k : Int) ≤ D) (h : limit ≤ (k : Int) ∨ D ≤ (k : Int)) : (k : Int) = clampZ D 0 (max limit 0) := by unfold clampZ; omega
set_option maxHeartbeats 1000000 in
theorem r_need (s : StS) (c count limit : Int) (w : World) (ok : StOk s c) (h0 : 0 ≤ count) (h1 : count ≤ 1000) (h2 : limit ≤ 1000) :
    Calls Try.prog 17 #[.agg (stA s), .int .i64 count, .int .i64 limit] w (ValPost w (.int .i64 (ndZ s.loss count limit))) := by
  obtain ⟨l0, l1, r0, r1, v0, v1, m0, m1, t0, t1⟩ := ok
  obtain ⟨loss, rtt, var, marks, trips⟩ := s
  simp only at l0 l1 r0 r1 v0 v1 m0 m1 t0 t1
  have hB : ∀ A, Below w.heap.size w (w.alloc A) := fun A => (Below.refl _ _).alloc (Nat.le_refl _) _
  have hBh := Lib.hid hB
  have hfew := Lib.hid (fun n => cdZ_few (count * 65536) (65536 - loss) n (by omega))
  have hcb := cdZ_bd (count * 65536) (65536 - loss) (by omega) (by omega)
  have hmid := Lib.hid (nd_mid (cdZ (count * 65536) (65536 - loss)) limit)
  unfold stA ndZ
  simp only
  rw [show max count 0 = count by omega]
  generalize hD : cdZ (count * 65536) (65536 - loss) = D at *
  have hDh := Lib.hid hD
  obtain ⟨d0, d1⟩ := hcb
  clear hB hD
  go_enter Try.func17, Try.ntmps17
  go_wp2_with fail
  go_loop [7] (fun v => ∃ k : Nat, (k : Int) ≤ max limit 0 ∧ (k : Int) ≤ D ∧ v = .int .i64 k) (fun v => (D - intOf v).toNat)
  case atStart => exact ⟨0, by omega, by omega, rfl⟩
  case round =>
    obtain ⟨k, hk1, hk2, rfl⟩ := hrel
    have hm := Lib.hid (hmid.out k hk1 hk2)
    have hk3 : (k : Int) ≤ 1000 := by omega
    have hp : 0 ≤ (k : Int) * (65536 - loss) := Int.mul_nonneg (by omega) (by omega)
    have hp2 : (k : Int) * (65536 - loss) ≤ 1000 * 65536 := Int.mul_le_mul hk3 (by omega) (by omega) (by omega)
    by_cases hlt : (k : Int) < limit
    · by_cases hd : (k : Int) < D
      · have hb : (k : Int) * (65536 - loss) < count * 65536 := (hfew.out k).2 hd
        clear hk1
        go_wp2_with fail
        go_round
        case rel => exact ⟨k + 1, by omega, by omega, by go_num⟩
        case measure => simp [intOf]; omega
      · have hb : decide ((k : Int) * (65536 - loss) < count * 65536) = false := decide_eq_false (fun h => hd ((hfew.out k).1 h))
        clear hk1
        go_wp2_with fail
        go_ret
        exact ⟨ret_int (hm.out (.inr (by omega))), hBh.out _⟩
    · have hb : decide ((k : Int) < limit) = false := decide_eq_false hlt
      clear hk1
      go_wp2_with fail
      go_ret
      exact ⟨ret_int (hm.out (.inl (by omega))), hBh.out _⟩
/-- Two states by value are the same, or not. -/
def steq (s t : StS) : Bool := s.loss == t.loss && s.rtt == t.rtt && s.var == t.var && s.marks == t.marks && s.trips == t.trips
/-! ### whole rows -/
theorem st_size5 (s : StS) : (stA s).size = 5 := by unfold stA; rfl
theorem st_plain (s : StS) : Plain (stA s) := by unfold Plain stA; simp [Value.oneCell']
theorem sst_info5 : (Try.prog.info? 40).map (·.size) = some 5 := by kernel_rfl
theorem ld_s0 (v : Value) : Instr.loadAt 40 v = wLoad 40 v := rfl
theorem ld_s (w : World) (b : Nat) : (wLoad 40 (.pointer (some ⟨b, 0, none⟩))).run Try.prog w = loadAns 5 w (blk w b) (wLoadRes Try.prog 40 b w) := run_wLoad Try.underlying40 rfl sst_info5 w b
theorem ld_r0 (v : Value) : Instr.loadAt 42 v = wLoad 42 v := rfl
theorem ld_r (w : World) (b : Nat) : (wLoad 42 (.pointer (some ⟨b, 0, none⟩))).run Try.prog w = loadAns 5 w (blk w b) (wLoadRes Try.prog 42 b w) := run_wLoad Try.underlying42 rfl rst_info5 w b
theorem sto_s0 (p x : Value) : Instr.storeAt 40 p x = wStore 40 p x := rfl
theorem sto_s (w : World) (b : Nat) (C : Array Value) : (wStore 40 (.pointer (some ⟨b, 0, none⟩)) (.agg C)).run Try.prog w = storeAns 5 w b C (blk w b) (wStoreRes Try.prog 40 b C w) := run_wStore sst_info5 w b C
theorem sto_r0 (p x : Value) : Instr.storeAt 42 p x = wStore 42 p x := rfl
theorem sto_r (w : World) (b : Nat) (C : Array Value) : (wStore 42 (.pointer (some ⟨b, 0, none⟩)) (.agg C)).run Try.prog w = storeAns 5 w b C (blk w b) (wStoreRes Try.prog 42 b C w) := run_wStore rst_info5 w b C
theorem zeroSt (w : World) : (zeroValue 40).run Try.prog w = .ok (.agg (stA z0T)) w := by kernel_rfl
theorem zeroRst (w : World) : (zeroValue 42).run Try.prog w = .ok (.agg (stA z0T)) w := by kernel_rfl
attribute [local irreducible] blk wLoad wLoadRes loadAns wStore wStoreRes storeAns Plain stA
attribute [local go_sem ↓] ld_s0 ld_r0 sto_s0 sto_r0
attribute [local go_sem] ld_s ld_r sto_s sto_r loadAns_some storeAns_some st_size5 st_plain blk_alloc_if blk_setRow_if blk_drew_at blk_drewN_at rowPut_some
theorem two_boxes (w : World) (A B : Obj) : ((w.alloc A).alloc B).heap[w.heap.size]? = some A ∧ ((w.alloc A).alloc B).heap[w.heap.size + 1]? = some B ∧ ((w.alloc A).alloc B).heap.size = w.heap.size + 2 ∧ Below w.heap.size w ((w.alloc A).alloc B) := by
  have s1 : ∀ (u : World) (o : Obj), (u.alloc o).heap.size = u.heap.size + 1 := fun u o => by show (u.heap.push _).size = _; rw [Array.size_push]
  exact ⟨blk_alloc (last_block0 _ _ _ rfl) _, last_block0 _ _ _ (s1 _ _).symm, by rw [s1, s1], ((Below.refl _ _).alloc (Nat.le_refl _) _).alloc (by rw [s1]; omega) _⟩
end Go.Proofs.Ytpeloeiiaikadaa
