/- The walk of the law DeltaCodes: it answers true for every list of inputs. -/
import Derived.Test.YtdpmhfpoendooaaDeltaSame
namespace Go.Proofs.Ytdpmhfpoendooaa
open Go.RowKit
theorem en_good (L : Nat → Nat) (hL : ∀ i, L i < 65536) (n K : Nat) (hK : K = (enN L n n + 7) / 8) : Good (byF (enB L n n)) K (gmN (n + 1)) n := ⟨(en_form L hL n K hK).1, (en_form L hL n K hK).2.1⟩
theorem by_en (L : Nat → Nat) (n : Nat) : obF (byF (enB L n n)) = enB L n n := funext fun j => ob_by _ (en_bit L n n) j
attribute [local irreducible] OwnB byF apF bitF putF ctF bsF gmF gmN nbF chF chN enN enB dlF lastF pxF obF nuF catF ckN ckV qF lsF ouF OwnZ OkF rsB OkC
set_option maxRecDepth 100000 in
set_option maxHeartbeats 4000000 in
theorem deltaCodes_walk (a0 : Option Addr) (len0 cap0 : Nat) (z0 : List Int) (w : World) (w0 : IsRow .u16 w a0 len0 cap0 z0) :
    Calls Try.prog 6 #[.slice a0 len0 cap0] w fun e w' => e = .returned (.bool true) ∧ Below w.heap.size w w' := by
  obtain ⟨L, hs, hL, hc0, hc1, _⟩ := in_open w0
  unfold maxLen at hc1
  clear w0
  by_cases hlong : 6000 < len0
  · have d1 : decide (6000 < (len0 : Int)) = true := decide_eq_true (by omega)
    clear hs hL
    go_enter Try.func6, Try.ntmps6
    go_wp2_with fail
    refine (de_awake w).mono ?_
    rintro e w1 ⟨rfl, hb1⟩
    go_wp2_with fail
    go_ret
    exact ⟨rfl, hb1⟩
  have d1 : decide (6000 < (len0 : Int)) = false := decide_eq_false (by omega)
  have d1' : decide (6000 < len0) = false := decide_eq_false (by omega)
  by_cases hlong2 : 4096 < len0
  · have d2 : decide (4096 < (len0 : Int)) = true := decide_eq_true (by omega)
    have ke := Lib.hid (fun W => d_encode_long a0 len0 cap0 W hlong2 (by omega))
    have ks := Lib.hid (fun W => d_size_long a0 len0 cap0 W hlong2 (by omega))
    clear hs hL
    go_enter Try.func6, Try.ntmps6
    go_wp2_with fail
    refine (de_awake w).mono ?_
    rintro e w1 ⟨rfl, hb1⟩
    have hb1h := Lib.hid hb1
    clear hb1
    go_wp2_with fail
    refine (ke.out w1).mono ?_
    rintro e w2 ⟨rfl, rfl⟩
    go_wp2_with fail
    refine (ks.out w1).mono ?_
    rintro e w2 ⟨rfl, rfl⟩
    go_wp2_with fail
    go_ret
    exact ⟨rfl, hb1h.out⟩
  have hn : len0 ≤ 4096 := by omega
  have d2 : decide (4096 < (len0 : Int)) = false := decide_eq_false (by omega)
  have d2' : decide (4096 < len0) = false := decide_eq_false (by omega)
  have hsh := Lib.hid hs
  have ke := Lib.hid (fun W h => d_encode a0 len0 cap0 L W h hL hn)
  have kr := Lib.hid (fun W h => dr_encode a0 len0 cap0 L W h hL hn)
  have ks := Lib.hid (fun W h => d_size a0 len0 cap0 L W h hL hn)
  have hen : (enN L len0 len0 + 7) / 8 ≤ 10000 := by have := en_le L len0 len0 hn; omega
  have hby : ∀ j, byF (enB L len0 len0) j < 256 := fun j => by_lt _ (en_bit L len0 len0) j
  obtain ⟨m, hm1, hm2, hm3, hm4, hm5⟩ := gm_back L len0
  have hm63 := hm2 (by omega)
  have hgood := en_good L hL len0 _ rfl
  have hout := (en_form L hL len0 _ rfl).2.2
  have hob := by_en L len0
  have hq := (en_keep L len0 (show 0 ≤ len0 by omega)).1
  rw [enN_zero, hm1] at hq
  have kd : Hid (∀ g c W, BRow W g ((enN L len0 len0 + 7) / 8) (byF (enB L len0 len0)) → (enN L len0 len0 + 7) / 8 ≤ c → c ≤ maxLen → Calls Try.prog 28 #[.slice (some ⟨g, 0, none⟩) ((enN L len0 len0 + 7) / 8) c] W (ListPost W len0 L)) := hide (fun g c W h h0 h1 => by
    have := d_dec (some ⟨g, 0, none⟩) ((enN L len0 len0 + 7) / 8) c (byF (enB L len0 len0)) W (Pv.row h h0 h1) hby (by omega) m (by rw [hob]; exact hm3) (by rw [hob]; exact hm4) hm63 (by omega) len0 (by rw [hob]; exact hm5) hn
    refine this.mono fun e w' h => ?_
    obtain ⟨s, cap, he, ha, hr⟩ := h.1 (by rw [← hm1]; exact hgood)
    refine ⟨s, cap, he, fun i hi => ?_, hr⟩
    rw [← hout i hi, hm1]
    exact ha i hi)
  generalize (enN L len0 len0 + 7) / 8 = E at *
  generalize byF (enB L len0 len0) = D at *
  clear hs hL hby hm3 hm4 hm5 hgood hout hob hq hm1 hm2
  go_enter Try.func6, Try.ntmps6
  go_wp2_with fail
  refine (de_awake w).mono ?_
  rintro e w1 ⟨rfl, hb1⟩
  have hb1h := Lib.hid hb1
  have hs1 := hsh.out.below hb1
  have ke1 := Lib.hid (ke.out w1 hs1)
  clear hb1 hs1
  go_wp2_with fail
  refine ke1.out.mono ?_
  rintro e w2 ⟨g, c, rfl, p1, p2, p3, hrow, hb2⟩
  have hb2h := Lib.hid (below_step hb1h.out hb1h.out.size hb2)
  have hrowh := Lib.hid hrow
  have kd2 := Lib.hid (kd.out g c w2 hrow p2 p3)
  clear hb2 hrow
  go_wp2_with fail
  refine kd2.out.mono ?_
  rintro e w3 ⟨s, c3, rfl, ha, p4, p5, hb3⟩
  have hb3h := Lib.hid (below_step hb2h.out hb2h.out.size hb3)
  have hrow3 := Lib.hid (hrowh.out.below hb3 hrowh.out.lt)
  have hah := Lib.hid ha
  have kr3 := Lib.hid (kr.out w3 (hsh.out.below hb3h.out))
  clear hb3 ha
  go_wp2_with fail
  refine kr3.out.mono ?_
  rintro e w4 ⟨g4, c4, rfl, p6, p7, p8, hrw4, hb4⟩
  have hb4h := Lib.hid (below_step hb3h.out hb3h.out.size hb4)
  have ksm := Lib.hid (r_same8 (some ⟨g, 0, none⟩) (some ⟨g4, 0, none⟩) c c4 E D w4 (hrow3.out.below hb4 hrow3.out.lt).by hrw4.by (by omega))
  have ha4 := Lib.hid (hah.out.below hb4)
  clear hb4 hrw4
  go_wp2_with fail
  refine ksm.out.mono ?_
  rintro e w5 ⟨rfl, mm, rfl⟩
  have hb5h := Lib.hid (below_drewN hb4h.out mm)
  have ha5 : Hid (InAt (w4.drewN mm) s len0 L) := ha4
  generalize w4.drewN mm = w5 at *
  have ksa := Lib.hid (de_same s a0 c3 cap0 len0 L w5 ha5.out (hsh.out.below hb5h.out) (by omega))
  go_wp2_with fail
  refine ksa.out.mono ?_
  rintro e w6 ⟨rfl, mm2, rfl⟩
  have hb6h := Lib.hid (below_drewN hb5h.out mm2)
  generalize w5.drewN mm2 = w6 at *
  have ks6 := Lib.hid (ks.out w6 (hsh.out.below hb6h.out))
  go_wp2_with fail
  refine ks6.out.mono ?_
  rintro e w7 ⟨rfl, hb7⟩
  have hb7h := Lib.hid (below_step hb6h.out hb6h.out.size hb7)
  clear hb7
  go_wp2_with fail
  go_ret
  exact ⟨rfl, hb7h.out⟩
end Go.Proofs.Ytdpmhfpoendooaa
