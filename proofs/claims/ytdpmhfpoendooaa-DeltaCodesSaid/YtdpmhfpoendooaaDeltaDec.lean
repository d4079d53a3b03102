/- The contracts of package delta's change and Decode. Condition: the slice reads as the bytes named. -/
import Derived.Test.YtdpmhfpoendooaaDecPlain
import Derived.Test.YtdpmhfpoendooaaOwnZ
namespace Go.Proofs.Ytdpmhfpoendooaa
open Go.RowKit
theorem infoIn : (Try.prog.info? 25).map (fun i => (i.zero, i.size, i.bytes)) = some (some (.int .u16 0), 1, 2) := by kernel_rfl
theorem RdAt.grown {w w' : World} {p g c L q : Nat} {bad : Bool} {D : Nat → Nat} {row : Option Nat} (h : RdAt w p g c L q bad D) (hg : w.grownBy w' row) (hne : ∀ b, row = some b → b ≠ p ∧ b ≠ g) : RdAt w' p g c L q bad D :=
  ⟨(hg.block p (blk_lt (blk_of h.st)) (fun e => (hne p e.symm).1 rfl)).trans h.st, h.row.stay (hg.block g h.row.lt (fun e => (hne g e.symm).2 rfl)), h.ne⟩
theorem clamp_six : clampZ 6 0 64 = ((6 : Nat) : Int) := by decide
theorem clamp_16 : clampZ 16 0 64 = ((16 : Nat) : Int) := by decide
theorem wrap16 (x : Nat) (h : x < 65536) : IntKind.u16.wrap (x : Int) = (x : Int) := by rw [IntKind.wrap_u16]; omega
theorem ck_a (β : Nat → Nat) (q : Nat) (h : β q = 0) : ckN β q = 1 ∧ ckV β q = 0 := by unfold ckN ckV; rw [if_pos h, if_pos h]; exact ⟨rfl, rfl⟩
theorem ck_b (β : Nat → Nat) (q : Nat) (h : β q = 1) (h1 : β (q + 1) = 0) : ckN β q = 8 ∧ ckV β q = nuF β (q + 2) 6 := by
  have n0 : ¬ β q = 0 := by omega
  unfold ckN ckV; rw [if_neg n0, if_neg n0, if_pos h1, if_pos h1]; exact ⟨rfl, rfl⟩
theorem ck_c (β : Nat → Nat) (q : Nat) (h : β q = 1) (h1 : β (q + 1) = 1) : ckN β q = 18 ∧ ckV β q = nuF β (q + 2) 16 := by
  have n0 : ¬ β q = 0 := by omega
  have n1 : ¬ β (q + 1) = 0 := by omega
  unfold ckN ckV; rw [if_neg n0, if_neg n0, if_neg n1, if_neg n1]; exact ⟨rfl, rfl⟩
theorem ch8 (v : Nat) (h : v < 64) : chN v = 8 ↔ v ≠ 0 := by
  unfold chN
  split
  · omega
  · first
      | omega
      | (rw [if_pos h]; omega)
theorem ch18 (v : Nat) : chN v = 18 ↔ 64 ≤ v := by
  unfold chN
  split
  · omega
  · split <;> omega
/-- is the change at q there, and in its one form? -/
def OkC (β : Nat → Nat) (T q : Nat) : Prop := q + ckN β q ≤ T ∧ chN (ckV β q) = ckN β q
def ChPost (w : World) (p g c L q : Nat) (D : Nat → Nat) (e : Ending) (w' : World) : Prop :=
  (OkC (obF D) (8 * L) q ∧ e = .returned (.tuple #[.int .u16 (ckV (obF D) q : Nat), .bool true]) ∧ RdAt w' p g c L (q + ckN (obF D) q) false D ∧ w.grownBy w' (some p)) ∨
  (¬ OkC (obF D) (8 * L) q ∧ ∃ x : Int, e = .returned (.tuple #[.int .u16 x, .bool false]) ∧ w.grownBy w' (some p))
attribute [local irreducible] OwnB byF apF bitF putF ctF bsF gmF gmN nbF chF chN enN enB dlF lastF pxF obF nuF catF ckN ckV qF lsF ouF
set_option maxHeartbeats 4000000 in
theorem d_change (p g c L q : Nat) (D : Nat → Nat) (w : World) (hr : RdAt w p g c L q false D) (hD : ∀ j, D j < 256) (hL : L ≤ 1000000) (hq : q ≤ 8 * L) :
    Calls Try.prog 34 #[.pointer (some ⟨p, 0, none⟩)] w (ChPost w p g c L q D) := by
  have hbit : Bit (obF D) := fun j => ob_bit D j
  have kg := Lib.hid (fun (a k N : Nat) W (h : RdAt W p g c L a false D) (hN : clampZ (k : Int) 0 64 = (N : Int)) (hj : a + N ≤ 8 * L) => d_get p g c L a D (k : Int) W h hD hL N hN hj)
  have kn := Lib.hid (fun (a k N : Nat) (bad : Bool) W (h : RdAt W p g c L a bad D) (hN : clampZ (k : Int) 0 64 = (N : Int)) (ha : a ≤ 8 * L) (hno : bad = true ∨ 8 * L < a + N) => d_get_no p g c L a bad D (k : Int) W h hL N hN ha hno)
  have hone := Lib.hid (fun a => nu_one (obF D) a)
  have hrh := Lib.hid hr
  by_cases hq1 : q + 1 ≤ 8 * L
  · have k1 := Lib.hid (kg.out q 1 1 w hr clamp_one hq1)
    rw [hone.out, show ((1 : Nat) : Int) = 1 from rfl] at k1
    rcases (show obF D q = 0 ∨ obF D q = 1 by have := hbit q; omega) with h0 | h0
    · obtain ⟨e1, e2⟩ := ck_a (obF D) q h0
      have hok : Hid (OkC (obF D) (8 * L) q) := hide ⟨by omega, by rw [e1, e2, chN_0]⟩
      rw [h0, show ((0 : Nat) : Int) = 0 from rfl] at k1
      clear kg kn hone hr hrh
      go_enter Try.func34, Try.ntmps34
      go_wp2_with fail
      refine k1.out.mono ?_
      rintro e w2 ⟨rfl, r2, g2⟩
      have c2 : w2.cell? ⟨p, 2, none⟩ = some (.bool false) := (cell_of_block r2.st).trans rfl
      have hfin : Hid (ChPost w p g c L q D (.returned (.tuple #[.int .u16 0, .bool true])) w2) := hide (.inl ⟨hok.out, by rw [e2]; rfl, by rw [e1]; exact r2, g2⟩)
      clear r2 g2 e1 e2 h0 hok
      go_wp2_with fail
      go_quiet (fail)
      have hfin2 : Hid (ChPost w p g c L q D (.returned (.tuple #[.int .u16 0, .bool true])) (w2.drewN nq)) := hide (by
        rcases hfin.out with ⟨h1, h2, h3, h4⟩ | ⟨h1, x, h2, h4⟩
        · exact .inl ⟨h1, h2, h3.drewN _, only_drewN h4 _⟩
        · exact .inr ⟨h1, x, h2, only_drewN h4 _⟩)
      go_wp2_with fail
      go_ret2
      exact hfin2.out
    · rw [h0, show ((1 : Nat) : Int) = 1 from rfl] at k1
      by_cases hq2 : q + 1 + 1 ≤ 8 * L
      · have k2 := Lib.hid (fun W h => kg.out (q + 1) 1 1 W h clamp_one hq2)
        rw [hone.out, show ((1 : Nat) : Int) = 1 from rfl] at k2
        rcases (show obF D (q + 1) = 0 ∨ obF D (q + 1) = 1 by have := hbit (q + 1); omega) with h1 | h1
        · obtain ⟨e1, e2⟩ := ck_b (obF D) q h0 h1
          rw [h1, show ((0 : Nat) : Int) = 0 from rfl] at k2
          have hlt : nuF (obF D) (q + 2) 6 < 64 := nu_lt (obF D) hbit (q + 2) 6
          have hch := ch8 _ hlt
          by_cases hq3 : q + 2 + 6 ≤ 8 * L
          · have k3 := Lib.hid (fun W h => kg.out (q + 2) 6 6 W h clamp_six hq3)
            rw [show ((6 : Nat) : Int) = 6 from rfl] at k3
            have hok : Hid (nuF (obF D) (q + 2) 6 ≠ 0 ↔ OkC (obF D) (8 * L) q) := hide (by unfold OkC; rw [e1, e2, hch]; exact ⟨fun h => ⟨by omega, h⟩, fun h => h.2⟩)
            have hqe : q + 2 + 6 = q + ckN (obF D) q := by rw [e1]
            rw [hqe] at k3
            have e2h := Lib.hid e2
            clear kg kn hone hr hrh hch hqe e1 e2 h0 h1
            generalize nuF (obF D) (q + 2) 6 = x at *
            have hw := wrap16 x (by omega)
            by_cases hv : x ≠ 0
            · have hokh := Lib.hid (hok.out.1 hv)
              have t1 : (((x : Nat) : Int) != 0) = true := bne_nat1 x hv
              go_enter Try.func34, Try.ntmps34
              go_wp2_with fail
              refine k1.out.mono ?_
              rintro e w2 ⟨rfl, r2, g2⟩
              have k2a := Lib.hid (k2.out w2 r2)
              have g2h := Lib.hid g2
              clear r2 g2
              go_wp2_with fail
              refine k2a.out.mono ?_
              rintro e w3 ⟨rfl, r3, g3⟩
              have k3a := Lib.hid (k3.out w3 r3)
              have g3h := Lib.hid (only_trans g2h.out g3)
              clear r3 g3
              go_wp2_with fail
              refine k3a.out.mono ?_
              rintro e w4 ⟨rfl, r4, g4⟩
              have g4h := Lib.hid (only_trans g3h.out g4)
              have c2 : w4.cell? ⟨p, 2, none⟩ = some (.bool false) := (cell_of_block r4.st).trans rfl
              have r4h := Lib.hid r4
              clear r4 g4 hok hv
              go_wp2_with fail
              go_ret2
              exact .inl ⟨hokh.out, by rw [e2h.out]; rfl, r4h.out, g4h.out⟩
            · have hokh := Lib.hid (fun h => hv (hok.out.2 h))
              have t1 : (((x : Nat) : Int) != 0) = false := bne_nat0 x (by omega)
              go_enter Try.func34, Try.ntmps34
              go_wp2_with fail
              refine k1.out.mono ?_
              rintro e w2 ⟨rfl, r2, g2⟩
              have k2a := Lib.hid (k2.out w2 r2)
              have g2h := Lib.hid g2
              clear r2 g2
              go_wp2_with fail
              refine k2a.out.mono ?_
              rintro e w3 ⟨rfl, r3, g3⟩
              have k3a := Lib.hid (k3.out w3 r3)
              have g3h := Lib.hid (only_trans g2h.out g3)
              clear r3 g3
              go_wp2_with fail
              refine k3a.out.mono ?_
              rintro e w4 ⟨rfl, r4, g4⟩
              have g4h := Lib.hid (only_trans g3h.out g4)
              have c2 : w4.cell? ⟨p, 2, none⟩ = some (.bool false) := (cell_of_block r4.st).trans rfl
              clear r4 g4 hok hv
              go_wp2_with fail
              go_ret2
              exact .inr ⟨hokh.out, _, rfl, g4h.out⟩
          · have hnoh : Hid (¬ OkC (obF D) (8 * L) q) := hide (fun h => by have h2 := h.1; rw [e1] at h2; omega)
            have k3 := Lib.hid (fun W h => kn.out (q + 2) 6 6 false W h clamp_six hq2 (.inr (by omega)))
            rw [show ((6 : Nat) : Int) = 6 from rfl] at k3
            clear kg kn hone hr hrh hch hlt e1 e2 h0 h1
            go_enter Try.func34, Try.ntmps34
            go_wp2_with fail
            refine k1.out.mono ?_
            rintro e w2 ⟨rfl, r2, g2⟩
            have k2a := Lib.hid (k2.out w2 r2)
            have g2h := Lib.hid g2
            clear r2 g2
            go_wp2_with fail
            refine k2a.out.mono ?_
            rintro e w3 ⟨rfl, r3, g3⟩
            have k3a := Lib.hid (k3.out w3 r3)
            have g3h := Lib.hid (only_trans g2h.out g3)
            clear r3 g3
            go_wp2_with fail
            refine k3a.out.mono ?_
            rintro e w4 ⟨rfl, r4, g4⟩
            have g4h := Lib.hid (only_trans g3h.out g4)
            have c2 : w4.cell? ⟨p, 2, none⟩ = some (.bool true) := (cell_of_block r4.st).trans rfl
            clear r4 g4
            go_wp2_with fail
            go_ret2
            exact .inr ⟨hnoh.out, _, rfl, g4h.out⟩
        · obtain ⟨e1, e2⟩ := ck_c (obF D) q h0 h1
          rw [h1, show ((1 : Nat) : Int) = 1 from rfl] at k2
          have hlt : nuF (obF D) (q + 2) 16 < 65536 := nu_lt (obF D) hbit (q + 2) 16
          have hch := ch18 (nuF (obF D) (q + 2) 16)
          by_cases hq3 : q + 2 + 16 ≤ 8 * L
          · have k3 := Lib.hid (fun W h => kg.out (q + 2) 16 16 W h clamp_16 hq3)
            rw [show ((16 : Nat) : Int) = 16 from rfl] at k3
            have hok : Hid (64 ≤ nuF (obF D) (q + 2) 16 ↔ OkC (obF D) (8 * L) q) := hide (by unfold OkC; rw [e1, e2, hch]; exact ⟨fun h => ⟨by omega, h⟩, fun h => h.2⟩)
            have hqe : q + 2 + 16 = q + ckN (obF D) q := by rw [e1]
            rw [hqe] at k3
            have e2h := Lib.hid e2
            clear kg kn hone hr hrh hch hqe e1 e2 h0 h1
            generalize nuF (obF D) (q + 2) 16 = x at *
            have hw := wrap16 x (by omega)
            by_cases hv : 64 ≤ x
            · have hokh := Lib.hid (hok.out.1 hv)
              have t1 : decide (((x : Nat) : Int) ≥ 64) = true := decide_eq_true (by omega)
              have t2 : decide (64 ≤ ((x : Nat) : Int)) = true := decide_eq_true (by omega)
              go_enter Try.func34, Try.ntmps34
              go_wp2_with fail
              refine k1.out.mono ?_
              rintro e w2 ⟨rfl, r2, g2⟩
              have k2a := Lib.hid (k2.out w2 r2)
              have g2h := Lib.hid g2
              clear r2 g2
              go_wp2_with fail
              refine k2a.out.mono ?_
              rintro e w3 ⟨rfl, r3, g3⟩
              have k3a := Lib.hid (k3.out w3 r3)
              have g3h := Lib.hid (only_trans g2h.out g3)
              clear r3 g3
              go_wp2_with fail
              refine k3a.out.mono ?_
              rintro e w4 ⟨rfl, r4, g4⟩
              have g4h := Lib.hid (only_trans g3h.out g4)
              have c2 : w4.cell? ⟨p, 2, none⟩ = some (.bool false) := (cell_of_block r4.st).trans rfl
              have r4h := Lib.hid r4
              clear r4 g4 hok hv
              go_wp2_with fail
              go_ret2
              exact .inl ⟨hokh.out, by rw [e2h.out]; rfl, r4h.out, g4h.out⟩
            · have hokh := Lib.hid (fun h => hv (hok.out.2 h))
              have t1 : decide (((x : Nat) : Int) ≥ 64) = false := decide_eq_false (by omega)
              have t2 : decide (64 ≤ ((x : Nat) : Int)) = false := decide_eq_false (by omega)
              have t3 : decide (64 ≤ x) = false := decide_eq_false (by omega)
              go_enter Try.func34, Try.ntmps34
              go_wp2_with fail
              refine k1.out.mono ?_
              rintro e w2 ⟨rfl, r2, g2⟩
              have k2a := Lib.hid (k2.out w2 r2)
              have g2h := Lib.hid g2
              clear r2 g2
              go_wp2_with fail
              refine k2a.out.mono ?_
              rintro e w3 ⟨rfl, r3, g3⟩
              have k3a := Lib.hid (k3.out w3 r3)
              have g3h := Lib.hid (only_trans g2h.out g3)
              clear r3 g3
              go_wp2_with fail
              refine k3a.out.mono ?_
              rintro e w4 ⟨rfl, r4, g4⟩
              have g4h := Lib.hid (only_trans g3h.out g4)
              have c2 : w4.cell? ⟨p, 2, none⟩ = some (.bool false) := (cell_of_block r4.st).trans rfl
              clear r4 g4 hok hv
              go_wp2_with fail
              go_ret2
              exact .inr ⟨hokh.out, _, rfl, g4h.out⟩
          · have hnoh : Hid (¬ OkC (obF D) (8 * L) q) := hide (fun h => by have h2 := h.1; rw [e1] at h2; omega)
            have k3 := Lib.hid (fun W h => kn.out (q + 2) 16 16 false W h clamp_16 hq2 (.inr (by omega)))
            rw [show ((16 : Nat) : Int) = 16 from rfl] at k3
            clear kg kn hone hr hrh hch hlt e1 e2 h0 h1
            go_enter Try.func34, Try.ntmps34
            go_wp2_with fail
            refine k1.out.mono ?_
            rintro e w2 ⟨rfl, r2, g2⟩
            have k2a := Lib.hid (k2.out w2 r2)
            have g2h := Lib.hid g2
            clear r2 g2
            go_wp2_with fail
            refine k2a.out.mono ?_
            rintro e w3 ⟨rfl, r3, g3⟩
            have k3a := Lib.hid (k3.out w3 r3)
            have g3h := Lib.hid (only_trans g2h.out g3)
            clear r3 g3
            go_wp2_with fail
            refine k3a.out.mono ?_
            rintro e w4 ⟨rfl, r4, g4⟩
            have g4h := Lib.hid (only_trans g3h.out g4)
            have c2 : w4.cell? ⟨p, 2, none⟩ = some (.bool true) := (cell_of_block r4.st).trans rfl
            clear r4 g4
            go_wp2_with fail
            go_ret2
            exact .inr ⟨hnoh.out, _, rfl, g4h.out⟩
      · have hno : ¬ OkC (obF D) (8 * L) q := fun h => by
          have h2 := h.1
          unfold ckN at h2
          rw [if_neg (by omega)] at h2
          split at h2 <;> omega
        have hnoh := Lib.hid hno
        have k2 := Lib.hid (fun W h => kn.out (q + 1) 1 1 false W h clamp_one hq1 (.inr (by omega)))
        have k3 := Lib.hid (fun W h => kn.out (q + 1) 6 6 true W h clamp_six hq1 (.inl rfl))
        rw [show ((1 : Nat) : Int) = 1 from rfl] at k2
        rw [show ((6 : Nat) : Int) = 6 from rfl] at k3
        clear kg kn hone hr hrh hno
        go_enter Try.func34, Try.ntmps34
        go_wp2_with fail
        refine k1.out.mono ?_
        rintro e w2 ⟨rfl, r2, g2⟩
        have k2a := Lib.hid (k2.out w2 r2)
        have g2h := Lib.hid g2
        clear r2 g2
        go_wp2_with fail
        refine k2a.out.mono ?_
        rintro e w3 ⟨rfl, r3, g3⟩
        have k3a := Lib.hid (k3.out w3 r3)
        have g3h := Lib.hid (only_trans g2h.out g3)
        clear r3 g3
        go_wp2_with fail
        refine k3a.out.mono ?_
        rintro e w4 ⟨rfl, r4, g4⟩
        have c2 : w4.cell? ⟨p, 2, none⟩ = some (.bool true) := (cell_of_block r4.st).trans rfl
        have g4h := Lib.hid (only_trans g3h.out g4)
        clear r4 g4
        go_wp2_with fail
        go_ret2
        exact .inr ⟨hnoh.out, _, rfl, g4h.out⟩
  · have hno : ¬ OkC (obF D) (8 * L) q := fun h => by have h2 := h.1; have := ck_pos (obF D) q; omega
    have hnoh := Lib.hid hno
    have k1 := Lib.hid (kn.out q 1 1 false w hr clamp_one hq (.inr (by omega)))
    rw [show ((1 : Nat) : Int) = 1 from rfl] at k1
    clear kg kn hone hr hrh hno
    go_enter Try.func34, Try.ntmps34
    go_wp2_with fail
    refine k1.out.mono ?_
    rintro e w2 ⟨rfl, r2, g2⟩
    have c2 : w2.cell? ⟨p, 2, none⟩ = some (.bool true) := (cell_of_block r2.st).trans rfl
    have g2h := Lib.hid g2
    clear r2 g2
    go_wp2_with fail
    go_quiet (fail)
    have g3h := Lib.hid (only_drewN g2h.out nq)
    go_wp2_with fail
    go_ret2
    exact .inr ⟨hnoh.out, _, rfl, g3h.out⟩
end Go.Proofs.Ytdpmhfpoendooaa
