/- The contract of the law's same of layer 33: two lists that read alike; an argument that is a slice of bytes. -/
import Derived.Test.YtdpmhfpoendooaaDeltaDecRef
namespace Go.Proofs.Ytdpmhfpoendooaa
open Go.RowKit
theorem pv8_open {w : World} {a : Option Addr} {len cap : Nat} {zs : List Int} (h : IsRow .u8 w a len cap zs) : ∃ f, Pv w a len cap f ∧ (∀ j, f j < 256) := by
  obtain ⟨l, hl, h1, h2, hb, hs⟩ := isRow_nat h 256 u8_bd
  refine ⟨fun i => l.getD i 0, ⟨fun i hi => ?_, fun e => ?_, by omega, h2⟩, fun i => ?_⟩
  · have hi2 : i < l.length := by omega
    obtain ⟨b, off, hsb, hc⟩ := hs i (l.getD i 0) (by rw [List.getD_eq_getElem?_getD, List.getElem?_eq_getElem hi2]; rfl)
    exact ⟨b, off, hsb, hc⟩
  · subst e; exact isRow_none h
  · show l.getD i 0 < 256
    by_cases hi : i < l.length
    · rw [List.getD_eq_getElem?_getD, List.getElem?_eq_getElem hi]; exact hb _ (List.getElem_mem _)
    · rw [List.getD_eq_getElem?_getD, List.getElem?_eq_none (by omega)]; exact (by decide : 0 < 256)
set_option maxHeartbeats 1000000 in
theorem de_same (s t : Option Addr) (cs ct n : Nat) (f : Nat → Nat) (w : World) (hs : InAt w s n f) (ht : InAt w t n f) (hn : n ≤ 1000000) :
    Calls Try.prog 30 #[.slice s n cs, .slice t n ct] w (fun e w' => e = .returned (.bool true) ∧ ∃ m, w' = w.drewN m) := by
  have hsh := Lib.hid hs
  have hth := Lib.hid ht
  clear hs ht
  go_enter Try.func30, Try.ntmps30
  go_wp2_with fail
  go_loopw [5] (fun i wr => ∃ k m : Nat, k ≤ n ∧ i = .int .i64 k ∧ wr = w.drewN m) (fun i _ => n - (intOf i).toNat)
  case atStart => exact ⟨0, 0, by omega, rfl, rfl⟩
  case round =>
    obtain ⟨k, m, hk, rfl, rfl⟩ := hrel
    by_cases hlt : k < n
    · obtain ⟨b1, o1, h1, hc1⟩ := hsh.out k hlt
      obtain ⟨b2, o2, h2, hc2⟩ := hth.out k hlt
      subst h1 h2
      have i1 : (k : Int) < (n : Int) := by omega
      generalize f k = x at *
      go_wp2_with fail
      go_quiet (fail)
      go_wp2_with fail
      go_roundw
      case rel => exact ⟨k + 1, _, by omega, by go_num, rfl⟩
      case measure => simp [intOf]; omega
    · obtain rfl : k = n := by omega
      go_wp2_with fail
      go_ret
      exact ⟨rfl, m, rfl⟩
theorem de_same0 (w : World) :
    Calls Try.prog 30 #[.slice none 0 0, .slice none 0 0] w (fun e w' => e = .returned (.bool true) ∧ ∃ m, w' = w.drewN m) :=
  de_same none none 0 0 0 (fun _ => 0) w (fun i hi => absurd hi (by omega)) (fun i hi => absurd hi (by omega)) (by omega)
end Go.Proofs.Ytdpmhfpoendooaa
