import Derived.Test.YtipfoclmdbbjiaaU19
import Derived.Laws.BytesArg
import Derived.Deep.QuietTactic
/- Same of lists of bytes, of groups; the law's ref. Conditions: what the rows read as. -/
namespace Go.Proofs.Ytipfoclmdbbjiaa
open Go.RowKit
def stF2 (n : Nat) (f : Nat → Nat) : ByteArray := strOfNums ((List.range n).map fun j => ((f j : Nat) : Int))
set_option maxRecDepth 100000 in
/-- bytes as a string -/
theorem conv_by {w : World} {a : Option Addr} {n k : Nat} {f : Nat → Nat} (h : By w a n f) (h0 : 0 < n) : (convert 58 9 (.slice a n k)).run Try.prog w = .ok (.string (stF2 n f)) w := by
  obtain ⟨b, off, rfl, _⟩ := h 0 h0
  refine run_convert_bytes_arg w 58 5 Try.underlying58 Try.underlying5 b off n k ((List.range n).map fun j => ((f j : Nat) : Int)) (by simp) (fun i hi => ?_) 9 Try.underlying9
  obtain ⟨b2, off2, e, hc⟩ := h i hi
  injection e with e
  injection e with e1 e2
  subst e1 e2
  rw [hc]
  simp [List.getD, hi]
set_option maxRecDepth 100000 in
theorem beq_str (s : ByteArray) : (s == s) = true := by
  obtain ⟨d⟩ := s
  show (d == d) = true
  simp
set_option maxRecDepth 100000 in
theorem bne_str (s : ByteArray) : (s != s) = false := by unfold bne; rw [beq_str]; rfl
attribute [local irreducible] stF2 By RowsAt
set_option maxRecDepth 100000 in
set_option maxHeartbeats 4000000 in
theorem r_same06 (m n : Nat) (s t : Option Addr) (cs ct : Nat) (V : Nat → Nat → Nat) (w : World) (hs : RowsAt w s m n V) (ht : RowsAt w t m n V) (h0 : 0 < n) (hm : m ≤ 1000000) :
    Calls Try.prog 30 #[.slice s m cs, .slice t m ct] w (Ret w (.bool true)) := by
  have hS : Hid (∀ i, i < m → ∃ b off a k b' off' a' k', s = some ⟨b, off, none⟩ ∧ t = some ⟨b', off', none⟩ ∧ ∀ y, Below w.heap.size w y → y.cell? ⟨b, off + i, none⟩ = some (.slice a n k) ∧ y.cell? ⟨b', off' + i, none⟩ = some (.slice a' n k') ∧
      (convert 58 9 (.slice a n k)).run Try.prog y = .ok (.string (stF2 n (V i))) y ∧ (convert 58 9 (.slice a' n k')).run Try.prog y = .ok (.string (stF2 n (V i))) y) := hide (fun i hi => by
    unfold RowsAt at hs ht
    obtain ⟨b, off, a, k, e1, h1, h2⟩ := hs i hi
    obtain ⟨b', off', a', k', e2, h3, h4⟩ := ht i hi
    exact ⟨b, off, a, k, b', off', a', k', e1, e2, fun y hy => ⟨(hy.cell (p := ⟨b, off + i, none⟩) (cell_block_lt h1)).trans h1, (hy.cell (p := ⟨b', off' + i, none⟩) (cell_block_lt h3)).trans h3, conv_by (h2.below hy) h0, conv_by (h4.below hy) h0⟩⟩)
  have e0 := bne_cast_f m
  clear hs ht
  go_enter Try.func30, Try.ntmps30
  go_upto_region 4 with (fail)
  go_loopw [5] (fun v5 wr => ∃ i : Nat, i ≤ m ∧ v5 = .int .i64 (i : Nat) ∧ Hid (Below w.heap.size w wr)) (fun v5 _ => m - (intOf v5).toNat)
  case atStart => exact ⟨0, by omega, rfl, hide (Below.refl _ _)⟩
  case round =>
    obtain ⟨i, hi, rfl, hB⟩ := hrel
    by_cases him : i < m
    · have i1 : (i : Int) < (m : Int) := by omega
      obtain ⟨b, off, a, k, b', off', a', k', rfl, rfl, hall⟩ := hS.out i him
      obtain ⟨c1, c2, _, _⟩ := hall wr hB.out
      have c3 := fun q => (hall (wr.drewN q) (below_drewN hB.out q)).2.2.1
      have c4 := fun q => (hall (wr.drewN q) (below_drewN hB.out q)).2.2.2
      have e1 := bne_str (stF2 n (V i))
      clear hall
      go_upto_region 6 with (fail)
      go_quiet (fail)
      go_wp2_with fail
      go_roundw
      case rel => exact ⟨i + 1, by omega, by go_num, hide (below_drewN hB.out _)⟩
      case measure => simp [intOf]; omega
    · obtain rfl : i = m := by omega
      have i1 : decide ((i : Int) < (i : Int)) = false := by simp
      go_wp2_with fail
      go_ret
      exact ⟨rfl, hB.out⟩
end Go.Proofs.Ytipfoclmdbbjiaa
