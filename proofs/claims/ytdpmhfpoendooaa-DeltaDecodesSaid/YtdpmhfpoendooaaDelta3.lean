/- The contract of package delta's Size, the law's awake of layer 33, an argument that is a slice of inputs. -/
import Derived.Test.YtdpmhfpoendooaaDelta2
namespace Go.Proofs.Ytdpmhfpoendooaa
open Go.RowKit
def awL (_ : Nat) : Nat := 1
theorem aw_en0 : enN awL 0 0 = 1 ∧ byF (enB awL 0 0) 0 = 128 := by
  have h1 : nbF 1 = 1 := by decide +kernel
  have h2 : gmN 1 = 1 := by unfold gmN; rw [h1]
  refine ⟨by unfold enN; exact h2, ?_⟩
  have h3 : ∀ j, enB awL 0 0 j = if j = 0 then 1 else 0 := by
    intro j
    unfold enB ctF
    rw [h2]
    by_cases e : j = 0
    · subst e
      simp [gmF, h1, bitF]
    · rw [if_neg (by omega), if_neg (by omega), if_neg e]
  unfold byF
  simp [h3]
theorem aw_en1 : (enN awL 1 1 + 7) / 8 = 2 := by
  have h1 : nbF 2 = 2 := by decide +kernel
  have h2 : gmN 2 = 3 := by unfold gmN; rw [h1]
  have h3 : dlF awL 0 = 1 := by decide
  simp only [enN]
  rw [h2, h3]
  decide
theorem u16_nat {a : Int} (h : (Lit.int .u16 a).wf = true) : ∃ n : Nat, a = n ∧ n < 65536 := by
  have hx : 0 ≤ a ∧ a ≤ 65535 := by simpa [Lit.wf, IntKind.min, IntKind.max, IntKind.signed, IntKind.bits] using h
  exact ⟨a.toNat, by omega, by omega⟩
theorem u16_bd (n : Int) (h : (Lit.int .u16 n).wf = true) : 0 ≤ n ∧ n < (65536 : Nat) := by
  obtain ⟨m, rfl, hm⟩ := u16_nat h; omega
theorem in_open {w : World} {a : Option Addr} {len cap : Nat} {zs : List Int} (h : IsRow .u16 w a len cap zs) : ∃ L, InAt w a len L ∧ (∀ i, L i < 65536) ∧ len ≤ cap ∧ cap ≤ maxLen ∧ (a = none → len = 0 ∧ cap = 0) := by
  obtain ⟨l, hl, h1, h2, hb, hs⟩ := isRow_nat h 65536 u16_bd
  refine ⟨fun i => l.getD i 0, fun i hi => ?_, fun i => ?_, h1, h2, fun e => ?_⟩
  · have hi2 : i < l.length := by omega
    obtain ⟨b, off, hsb, hc⟩ := hs i (l.getD i 0) (by rw [List.getD_eq_getElem?_getD, List.getElem?_eq_getElem hi2]; rfl)
    exact ⟨b, off, hsb, hc⟩
  · show l.getD i 0 < 65536
    by_cases hi : i < l.length
    · rw [List.getD_eq_getElem?_getD, List.getElem?_eq_getElem hi]; exact hb _ (List.getElem_mem _)
    · rw [List.getD_eq_getElem?_getD, List.getElem?_eq_none (by omega)]; exact (by decide : 0 < 65536)
  · subst e; exact isRow_none h
attribute [local irreducible] OwnB byF apF bitF putF ctF bsF gmF gmN nbF chF chN enN enB dlF lastF
set_option maxHeartbeats 1000000 in
theorem d_size (s : Option Addr) (n cap : Nat) (L : Nat → Nat) (w : World) (hs : InAt w s n L) (hL : ∀ i, L i < 65536) (hn : n ≤ 4096) :
    Calls Try.prog 9 #[.slice s n cap] w (Ret w (.int .i64 (((enN L n n + 7) / 8 : Nat) : Int))) := by
  have ke := Lib.hid (d_encode s n cap L w hs hL hn)
  generalize (enN L n n + 7) / 8 = N at *
  clear hs hL
  go_enter Try.func9, Try.ntmps9
  go_wp2_with fail
  refine ke.out.mono ?_
  rintro e w1 ⟨g, c, rfl, h1, h2, h3, h4, h5⟩
  clear h4
  go_wp2_with fail
  go_ret
  exact ⟨rfl, h5⟩
set_option maxHeartbeats 1000000 in
theorem d_size_long (s : Option Addr) (n cap : Nat) (w : World) (hn : 4096 < n) (hn2 : n ≤ 9223372036854775807) :
    Calls Try.prog 9 #[.slice s n cap] w fun e w' => e = .returned (.int .i64 0) ∧ w = w' := by
  have ke := Lib.hid (d_encode_long s n cap w hn hn2)
  go_enter Try.func9, Try.ntmps9
  go_wp2_with fail
  refine ke.out.mono ?_
  rintro e w' ⟨rfl, rfl⟩
  go_wp2_with fail
  go_ret
  exact ⟨rfl, rfl⟩
set_option maxHeartbeats 1000000 in
theorem de_awake (w : World) : Calls Try.prog 8 #[] w (Ret w (.bool true)) := by
  have ke := Lib.hid (d_encode none 0 0 awL w (fun i hi => absurd hi (by omega)) (fun i => by unfold awL; omega) (by omega))
  have hby := aw_en0.2
  rw [aw_en0.1, show (1 + 7) / 8 = 1 from rfl] at ke
  generalize byF (enB awL 0 0) = B at *
  go_enter Try.func8, Try.ntmps8
  go_wp2_with fail
  refine ke.out.mono ?_
  rintro e w1 ⟨g, c, rfl, h1, h2, h3, h4, h5⟩
  have c0 := FRow.cell h4 0 (by omega)
  rw [hby] at c0
  have hin : InAt (w1.alloc (.cells #[.int .u16 1] 25)) (some ⟨w1.heap.size, 0, none⟩) 1 awL := fun i hi => ⟨_, _, rfl, by
    obtain rfl : i = 0 := by omega
    rw [cell_of_block (last_block0 w1 _ _ rfl)]; rfl⟩
  have ks := Lib.hid (d_size (some ⟨w1.heap.size, 0, none⟩) 1 1 awL _ hin (fun i => by unfold awL; omega) (by omega))
  rw [aw_en1] at ks
  have h5h := Lib.hid (h5.alloc h5.size (.cells #[.int .u16 1] 25))
  clear ke h4 hin h5 hby
  go_wp2_with fail
  refine ks.out.mono ?_
  rintro e w2 ⟨rfl, h6⟩
  have h7 := Lib.hid (below_step h5h.out h5h.out.size h6)
  clear h6
  go_wp2_with fail
  go_ret
  exact ⟨rfl, h7.out⟩
end Go.Proofs.Ytdpmhfpoendooaa
