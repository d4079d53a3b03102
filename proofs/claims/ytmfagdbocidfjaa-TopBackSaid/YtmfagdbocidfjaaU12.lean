import Derived.Test.YtmfagdbocidfjaaU11
import Derived.Test.YtmfagdbocidfjaaU02
import Derived.Deep.DeepCutAuto
/- A body's walk, fall and slide. Conditions: the state's numbers are such as their types hold. -/
namespace Go.Proofs.Ytmfagdbocidfjaa
open Go.RowKit
/-- is a button pressed? -/
def btn (x m : Int) : Bool := bits BinOp.and IntKind.u16 x m != 0
def walkF (q : Nat) (x : Int) (S : Nat → Int) : Nat → Int :=
  if btn x 1 = btn x 2 then setS S (q + 2) (fmulZ (S (q + 2) * 57344))
  else setS (setS S (q + 6) (if btn x 1 then -1 else 1)) (q + 2) (clampZ (satZ (S (q + 2) + (if btn x 1 then -16384 else 16384))) (-196608) 196608)
def fall1 (q : Nat) (x : Int) (S : Nat → Int) : Nat → Int := if btn x 4 = true ∧ S (q + 1) = 0 then setS S (q + 3) 327680 else S
def fall2 (q : Nat) (S : Nat → Int) : Nat → Int := if 0 < S (q + 1) ∨ S (q + 3) ≠ 0 then setS S (q + 3) (satZ (S (q + 3) - 21845)) else S
def fall3 (q : Nat) (S : Nat → Int) : Nat → Int := setS S (q + 1) (satZ (S (q + 1) + S (q + 3)))
def fall4 (q : Nat) (S : Nat → Int) : Nat → Int := if S (q + 1) ≤ 0 then setS (setS S (q + 1) 0) (q + 3) 0 else S
def fallF (q : Nat) (x : Int) (S : Nat → Int) : Nat → Int := fall4 q (fall3 q (fall2 q (fall1 q x S)))
def slide1 (q : Nat) (S : Nat → Int) : Nat → Int := setS S q (clampZ (satZ (S q + S (q + 2))) 0 13107200)
def slideF (q : Nat) (S : Nat → Int) : Nat → Int :=
  if slide1 q S q ≠ satZ (S q + S (q + 2)) then setS (slide1 q S) (q + 2) 0 else slide1 q S
set_option maxRecDepth 100000 in
theorem clamp_in {n lo hi : Int} (h : lo ≤ hi) (h1 : -9223372036854775808 ≤ lo) (h2 : hi ≤ 9223372036854775807) : I64 (clampZ n lo hi) := by
  unfold clampZ I64; omega
set_option maxRecDepth 100000 in
theorem fmul_in (x : Int) : I64 (fmulZ x) := by
  have h := lo_bd x
  unfold fmulZ
  constructor <;> split <;> (try split) <;> omega
set_option maxRecDepth 100000 in
theorem small_in {n : Int} (h1 : -1000000 ≤ n) (h2 : n ≤ 1000000) : I64 n := ⟨by omega, by omega⟩
set_option maxRecDepth 100000 in
theorem GOk.walk {q : Nat} {x : Int} {S : Nat → Int} (h : GOk S) : GOk (walkF q x S) := by
  unfold walkF
  split
  · exact h.set (by omega) (fmul_in _)
  · exact (h.set (by omega) (by split <;> exact small_in (by decide) (by decide))).set (by omega) (clamp_in (by decide) (by decide) (by decide))
set_option maxRecDepth 100000 in
theorem GOk.fall {q : Nat} {x : Int} {S : Nat → Int} (hq : q ≠ 0) (h : GOk S) : GOk (fallF q x S) := by
  have h1 : GOk (fall1 q x S) := by
    unfold fall1; split
    · exact h.set (by omega) (small_in (by decide) (by decide))
    · exact h
  unfold fallF
  generalize fall1 q x S = S1 at *
  have h2 : GOk (fall2 q S1) := by
    unfold fall2; split
    · exact h1.set (by omega) (satZ_bd _)
    · exact h1
  generalize fall2 q S1 = S2 at *
  have h3 : GOk (fall3 q S2) := h2.set (by omega) (satZ_bd _)
  generalize fall3 q S2 = S3 at *
  unfold fall4; split
  · exact (h3.set (by omega) (small_in (by decide) (by decide))).set (by omega) (small_in (by decide) (by decide))
  · exact h3
set_option maxRecDepth 100000 in
theorem GOk.slide {q : Nat} {S : Nat → Int} (hq : q ≠ 1) (h : GOk S) : GOk (slideF q S) := by
  have h1 : GOk (slide1 q S) := h.set hq (clamp_in (by decide) (by decide) (by decide))
  unfold slideF; split
  · exact h1.set (by omega) (small_in (by decide) (by decide))
  · exact h1
attribute [local irreducible] stA fmulZ satZ clampZ
set_option maxRecDepth 100000 in
set_option maxHeartbeats 4000000 in
theorem g_walk (g q : Nat) (hq : q = 2 ∨ q = 9) (S : Nat → Int) (x : Int) (w : World) (h : StAt w g S) (ok : GOk S) :
    Calls Try.prog 43 #[.pointer (some ⟨g, q, none⟩), .int .u16 x] w (GPost w g (walkF q x S)) := by
  have k2 : kdS (q + 2) = 0 := by rcases hq with rfl | rfl <;> decide
  have k6 : kdS (q + 6) = 0 := by rcases hq with rfl | rfl <;> decide
  have c2 := h.int (o := q + 2) (by omega) k2
  have f2 := h.fr (q + 2)
  have f6 := h.fr (q + 6)
  have c6 := h.int (o := q + 6) (by omega) k6
  have b2 := ok.1 (q + 2) (by omega)
  have hh := Lib.hid h
  have m1 := Lib.hid (fun y => f_mul (S (q + 2)) 57344 y b2 (small_in (by decide) (by decide)))
  have a1 := Lib.hid (fun y => w_add (S (q + 2)) 16384 y b2 (small_in (by decide) (by decide)))
  have a2 := Lib.hid (fun y => w_add (S (q + 2)) (-16384) y b2 (small_in (by decide) (by decide)))
  have l1 := Lib.hid (fun n y => w_clamp n (-196608) 196608 y)
  have e1 : Hid (btn x 1 = btn x 2 → GPost w g (walkF q x S) (.returned (.tuple #[])) (w.setCell ⟨g, q + 2, none⟩ (.int .i64 (fmulZ (S (q + 2) * 57344))))) := hide (fun e => by
    unfold walkF; rw [if_pos e]; exact ⟨rfl, h.set (by omega) k2 _, only_set (only_refl w _) _ _⟩)
  have e2 : Hid (btn x 1 = true → btn x 2 = false → GPost w g (walkF q x S) (.returned (.tuple #[])) ((w.setCell ⟨g, q + 6, none⟩ (.int .i64 (-1))).setCell ⟨g, q + 2, none⟩ (.int .i64 (clampZ (satZ (S (q + 2) + (-16384))) (-196608) 196608)))) := hide (fun e e' => by
    unfold walkF; rw [e, e', if_neg (by simp)]; exact ⟨rfl, (h.set (by omega) k6 _).set (by omega) k2 _, only_set (only_set (only_refl w _) _ _) _ _⟩)
  have e3 : Hid (btn x 1 = false → btn x 2 = true → GPost w g (walkF q x S) (.returned (.tuple #[])) ((w.setCell ⟨g, q + 6, none⟩ (.int .i64 1)).setCell ⟨g, q + 2, none⟩ (.int .i64 (clampZ (satZ (S (q + 2) + 16384)) (-196608) 196608)))) := hide (fun e e' => by
    unfold walkF; rw [e, e', if_neg (by simp)]; exact ⟨rfl, (h.set (by omega) k6 _).set (by omega) k2 _, only_set (only_set (only_refl w _) _ _) _ _⟩)
  unfold btn at e1 e2 e3
  generalize walkF q x S = S' at *
  clear h ok b2 hq
  cases h1 : (bits BinOp.and IntKind.u16 x 1 != 0) <;> cases h2 : (bits BinOp.and IntKind.u16 x 2 != 0)
  case false.false | true.true =>
    have e1 := Lib.hid (e1.out (by rw [h1, h2]))
    go_enter Try.func43, Try.ntmps43
    go_wp2_with fail
    refine (m1.out _).mono ?_
    rintro e w' ⟨rfl, rfl⟩
    go_wp2_with fail
    go_end0
    exact e1.out
  case true.false =>
    have e1 := Lib.hid (e2.out h1 h2)
    go_enter Try.func43, Try.ntmps43
    go_wp2_with fail
    refine (a2.out _).mono ?_
    rintro e w' ⟨rfl, rfl⟩
    go_wp2_with fail
    refine (l1.out _ _).mono ?_
    rintro e w' ⟨rfl, rfl⟩
    go_wp2_with fail
    go_end0
    exact e1.out
  case false.true =>
    have e1 := Lib.hid (e3.out h1 h2)
    go_enter Try.func43, Try.ntmps43
    go_wp2_with fail
    refine (a1.out _).mono ?_
    rintro e w' ⟨rfl, rfl⟩
    go_wp2_with fail
    refine (l1.out _ _).mono ?_
    rintro e w' ⟨rfl, rfl⟩
    go_wp2_with fail
    go_end0
    exact e1.out
set_option maxRecDepth 100000 in
set_option maxHeartbeats 4000000 in
theorem g_slide (g q : Nat) (hq : q = 2 ∨ q = 9) (S : Nat → Int) (w : World) (h : StAt w g S) (ok : GOk S) :
    Calls Try.prog 45 #[.pointer (some ⟨g, q, none⟩)] w (GPost w g (slideF q S)) := by
  have k0 : kdS q = 0 := by rcases hq with rfl | rfl <;> decide
  have k2 : kdS (q + 2) = 0 := by rcases hq with rfl | rfl <;> decide
  have c0 := h.int (o := q) (by omega) k0
  have c2 := h.int (o := q + 2) (by omega) k2
  have f0 := h.fr q
  have f2 := h.fr (q + 2)
  have a1 := Lib.hid (fun y => w_add (S q) (S (q + 2)) y (ok.1 _ (by omega)) (ok.1 _ (by omega)))
  have l1 := Lib.hid (fun n y => w_clamp n 0 13107200 y)
  obtain ⟨b, hb⟩ : ∃ b, (clampZ (satZ (S q + S (q + 2))) 0 13107200 != satZ (S q + S (q + 2))) = b := ⟨_, rfl⟩
  have e1 : Hid (∀ n, b = false → GPost w g (slideF q S) (.returned (.tuple #[])) ((w.drewN n).setCell ⟨g, q, none⟩ (.int .i64 (clampZ (satZ (S q + S (q + 2))) 0 13107200)))) := hide (fun n e => by
    rw [e] at hb
    unfold slideF slide1; rw [setS_same, if_neg (by simpa using hb)]; exact ⟨rfl, StAt.set (w := w.drewN n) h (by omega) k0 _, only_set (only_of_below (below_drewN (Below.refl _ _) n) _) _ _⟩)
  have e2 : Hid (∀ n, b = true → GPost w g (slideF q S) (.returned (.tuple #[])) (((w.drewN n).setCell ⟨g, q, none⟩ (.int .i64 (clampZ (satZ (S q + S (q + 2))) 0 13107200))).setCell ⟨g, q + 2, none⟩ (.int .i64 0))) := hide (fun n e => by
    rw [e] at hb
    unfold slideF slide1; rw [setS_same, if_pos (by simpa using hb)]; exact ⟨rfl, (StAt.set (w := w.drewN n) h (by omega) k0 _).set (by omega) k2 _, only_set (only_set (only_of_below (below_drewN (Below.refl _ _) n) _) _ _) _ _⟩)
  generalize slideF q S = S' at *
  clear h ok hq
  generalize satZ (S q + S (q + 2)) = z at *
  cases b
  · have e := Lib.hid (fun n => e1.out n rfl)
    clear e1 e2
    go_enter Try.func45, Try.ntmps45
    go_upto_region 0 with (fail)
    go_quiet ((go_at_call 78; exact Calls.quiet_of_same ((a1.out _).mono fun _ _ h => ⟨h.1, h.2.symm⟩)))
    go_wp2_with fail
    refine (l1.out _ _).mono ?_
    rintro e w' ⟨rfl, rfl⟩
    go_wp2_with fail
    go_end0
    exact e.out _
  · have e := Lib.hid (fun n => e2.out n rfl)
    clear e1 e2
    go_enter Try.func45, Try.ntmps45
    go_upto_region 0 with (fail)
    go_quiet ((go_at_call 78; exact Calls.quiet_of_same ((a1.out _).mono fun _ _ h => ⟨h.1, h.2.symm⟩)))
    go_wp2_with fail
    refine (l1.out _ _).mono ?_
    rintro e w' ⟨rfl, rfl⟩
    go_wp2_with fail
    go_end0
    exact e.out _
end Go.Proofs.Ytmfagdbocidfjaa

/- A body's jump and fall. Conditions: the state's numbers are such as their types hold. -/
namespace Go.Proofs.Ytmfagdbocidfjaa
open Go.RowKit
set_option maxRecDepth 100000 in
theorem GOk.fall1 {q : Nat} {x : Int} {S : Nat → Int} (h : GOk S) : GOk (Go.Proofs.Ytmfagdbocidfjaa.fall1 q x S) := by
  unfold Go.Proofs.Ytmfagdbocidfjaa.fall1; split
  · exact h.set (by omega) (small_in (by decide) (by decide))
  · exact h
set_option maxRecDepth 100000 in
theorem GOk.fall2 {q : Nat} {S : Nat → Int} (h : GOk S) : GOk (Go.Proofs.Ytmfagdbocidfjaa.fall2 q S) := by
  unfold Go.Proofs.Ytmfagdbocidfjaa.fall2; split
  · exact h.set (by omega) (satZ_bd _)
  · exact h
set_option maxRecDepth 100000 in
theorem only_cell0 {w : World} {g o p : Nat} {v : Value} (h : o ≠ p) : (w.setCell ⟨g, p, none⟩ v).cell? ⟨g, o, none⟩ = w.cell? ⟨g, o, none⟩ := by
  refine World.cell?_setCell_other _ _ _ _ (fun e => ?_)
  injection e with _ e
  exact h e.symm
set_option maxRecDepth 100000 in
theorem or_ne {a b : Int} (h : ¬ 0 < a) : (b != 0) = decide (0 < a ∨ b ≠ 0) := by by_cases hb : b = 0 <;> simp [hb, h]
attribute [local irreducible] stA fmulZ satZ clampZ
set_option maxRecDepth 100000 in
set_option maxHeartbeats 4000000 in
theorem g_fall (g q : Nat) (hq : q = 2 ∨ q = 9) (S : Nat → Int) (x : Int) (w : World) (h : StAt w g S) (ok : GOk S) :
    Calls Try.prog 44 #[.pointer (some ⟨g, q, none⟩), .int .u16 x] w (GPost w g (fallF q x S)) := by
  have k1 : kdS (q + 1) = 0 := by rcases hq with rfl | rfl <;> decide
  have k3 : kdS (q + 3) = 0 := by rcases hq with rfl | rfl <;> decide
  have hqn : q ≠ 0 := by omega
  have q1 : q + 1 < 66 := by omega
  have q3 : q + 3 < 66 := by omega
  have hI1 := Lib.hid (fun (y : World) (T : Nat → Int) (hy : StAt y g T) => hy.int q1 k1)
  have hI3 := Lib.hid (fun (y : World) (T : Nat → Int) (hy : StAt y g T) => hy.int q3 k3)
  have hS1 := Lib.hid (fun (y : World) (T : Nat → Int) (hy : StAt y g T) (v : Int) => hy.set q1 k1 v)
  have hS3 := Lib.hid (fun (y : World) (T : Nat → Int) (hy : StAt y g T) (v : Int) => hy.set q3 k3 v)
  have hh := Lib.hid h
  have okh := Lib.hid ok
  have hG := Lib.hid (only_refl w (some g))
  clear k1 k3 ok
  have c1 := h.int q1 (by rcases hq with rfl | rfl <;> decide)
  have c3 := h.int q3 (by rcases hq with rfl | rfl <;> decide)
  have f3 := h.fr (q + 3)
  clear h hq
  unfold fallF
  go_enter Try.func44, Try.ntmps44
  go_upto_region 0 with (fail)
  go_cut [13] (fun v13 wx => v13 = .bool (decide (btn x 4 = true ∧ S (q + 1) = 0)) ∧ w = wx)
  case first =>
    have hbt : btn x 4 = (bits BinOp.and IntKind.u16 x 4 != 0) := rfl
    cases h1 : (bits BinOp.and IntKind.u16 x 4 != 0)
    · go_wp2_with fail
      go_meet
      exact ⟨by rw [hbt, h1]; simp, rfl⟩
    · go_wp2_with fail
      go_meet
      exact ⟨by rw [hbt, h1]; simp; rfl, rfl⟩
  case rest =>
  obtain ⟨rfl, rfl⟩ := hcut
  go_upto_if 13 with (fail)
  go_cut [] (fun wx => Hid (StAt wx g (fall1 q x S)) ∧ Hid (w.grownBy wx (some g)))
  case first =>
    by_cases h1 : btn x 4 = true ∧ S (q + 1) = 0
    · rw [decide_eq_true h1]
      have hs : Hid (StAt _ g (fall1 q x S)) := hide (by unfold fall1; rw [if_pos h1]; exact hS3.out w S hh.out 327680)
      have hg := Lib.hid (only_set hG.out (q + 3) (.int .i64 327680))
      go_wp2_with fail
      go_meet
      exact ⟨hs, hg⟩
    · rw [decide_eq_false h1]
      have hs : Hid (StAt w g (fall1 q x S)) := hide (by unfold fall1; rw [if_neg h1]; exact hh.out)
      go_wp2_with fail
      go_meet
      exact ⟨hs, hG⟩
  case rest =>
    obtain ⟨hh1, hG1⟩ := hcut
    have ok1 := Lib.hid (okh.out.fall1 (q := q) (x := x))
    clear hh hG okh c1 f3
    generalize fall1 q x S = S1 at *
    have c1 := hI1.out _ _ hh1.out
    have c3 := hI3.out _ _ hh1.out
    have f3 := hh1.out.fr (q + 3)
    have a2 := Lib.hid (w_sub (S1 (q + 3)) 21845 wc (ok1.out.1 _ q3) (small_in (by decide) (by decide)))
    go_upto_region 2 with (fail)
    go_cut [28] (fun v28 wx => v28 = .bool (decide (0 < S1 (q + 1) ∨ S1 (q + 3) ≠ 0)) ∧ wc = wx)
    case first =>
      by_cases h1 : 0 < S1 (q + 1)
      · have d : decide (0 < S1 (q + 1)) = true := decide_eq_true h1
        go_wp2_with fail
        go_meet
        exact ⟨by rw [decide_eq_true (p := (0 < S1 (q + 1) ∨ S1 (q + 3) ≠ 0)) (.inl h1)], rfl⟩
      · have d : decide (0 < S1 (q + 1)) = false := decide_eq_false h1
        have h1h := Lib.hid (or_ne (b := S1 (q + 3)) h1)
        go_wp2_with fail
        go_meet
        exact ⟨by rw [h1h.out], rfl⟩
    case rest =>
    obtain ⟨rfl, rfl⟩ := hcut
    go_upto_if 28 with (fail)
    go_cut [] (fun wx => Hid (StAt wx g (fall2 q S1)) ∧ Hid (w.grownBy wx (some g)))
    case first =>
      by_cases h1 : 0 < S1 (q + 1) ∨ S1 (q + 3) ≠ 0
      · rw [decide_eq_true h1]
        have hs : Hid (StAt _ g (fall2 q S1)) := hide (by unfold fall2; rw [if_pos h1]; exact hS3.out wc S1 hh1.out (satZ (S1 (q + 3) - 21845)))
        have hg := Lib.hid (only_set hG1.out (q + 3) (.int .i64 (satZ (S1 (q + 3) - 21845))))
        go_wp2_with fail
        refine a2.out.mono ?_
        rintro e w' ⟨rfl, rfl⟩
        go_wp2_with fail
        go_meet
        exact ⟨hs, hg⟩
      · rw [decide_eq_false h1]
        have hs : Hid (StAt wc g (fall2 q S1)) := hide (by unfold fall2; rw [if_neg h1]; exact hh1.out)
        go_wp2_with fail
        go_meet
        exact ⟨hs, hG1⟩
    case rest =>
      obtain ⟨hh2, hG2⟩ := hcut
      have ok2 := Lib.hid (ok1.out.fall2 (q := q))
      clear hh1 hG1 ok1 c1 c3 f3 a2
      generalize fall2 q S1 = S2 at *
      have a2 := Lib.hid (w_add (S2 (q + 1)) (S2 (q + 3)) wc.drew (ok2.out.1 _ q1) (ok2.out.1 _ q3))
      have hh2d : Hid (StAt wc.drew g S2) := hide hh2.out
      have hs : Hid (StAt (wc.drew.setCell ⟨g, q + 1, none⟩ (.int .i64 (satZ (S2 (q + 1) + S2 (q + 3))))) g (fall3 q S2)) := hide (hS1.out wc.drew S2 hh2d.out (satZ (S2 (q + 1) + S2 (q + 3))))
      have ok3 : Hid (GOk (fall3 q S2)) := hide (ok2.out.set (by omega) (satZ_bd _))
      have hg := Lib.hid (only_set (only_drew hG2.out) (q + 1) (.int .i64 (satZ (S2 (q + 1) + S2 (q + 3)))))
      have c1 := hI1.out wc.drew _ hh2d.out
      have c3 := hI3.out wc.drew _ hh2d.out
      have c3' := (only_cell0 (w := wc.drew) (g := g) (o := q + 3) (p := q + 1) (v := .int .i64 (satZ (S2 (q + 1) + S2 (q + 3)))) (by omega)).trans c3
      have f1 := hh2d.out.fr (q + 1)
      go_upto_region 4 with (fail)
      refine h_begin 13 (fun y : World => y.cell? ⟨g, q + 3, none⟩ = some (.int .i64 (S2 (q + 3)))) rfl (by kernel_rfl) c3 ?_
      have hHeld := c3
      first
        | (refine h_run (i := 0) (v := ?_) hHeld rfl (by kernel_rfl) (by kernel_rfl) (by kernel_rfl) ?_ ?_ ?_
           rotate_left
           · rfl
           · (intro x hSx; (try dsimp only at hSx); go_simp <;> with_reducible rfl)
           simp only [Act.put, List.setIfInBounds_toArray, List.set_cons_zero, List.set_cons_succ])
        | (refine h_skip (i := 0) hHeld rfl (by kernel_rfl) (by kernel_rfl) (by kernel_rfl) ?_ ?_
           · rfl
           simp only [Act.put, List.setIfInBounds_toArray, List.set_cons_zero, List.set_cons_succ])
      first
        | (refine h_run (i := 1) (v := ?_) hHeld rfl (by kernel_rfl) (by kernel_rfl) (by kernel_rfl) ?_ ?_ ?_
           rotate_left
           · rfl
           · (intro x hSx; (try dsimp only at hSx); go_simp <;> with_reducible rfl)
           simp only [Act.put, List.setIfInBounds_toArray, List.set_cons_zero, List.set_cons_succ])
        | (refine h_skip (i := 1) hHeld rfl (by kernel_rfl) (by kernel_rfl) (by kernel_rfl) ?_ ?_
           · rfl
           simp only [Act.put, List.setIfInBounds_toArray, List.set_cons_zero, List.set_cons_succ])
      first
        | (refine h_run (i := 2) (v := ?_) hHeld rfl (by kernel_rfl) (by kernel_rfl) (by kernel_rfl) ?_ ?_ ?_
           rotate_left
           · rfl
           · (intro x hSx; (try dsimp only at hSx); go_simp <;> with_reducible rfl)
           simp only [Act.put, List.setIfInBounds_toArray, List.set_cons_zero, List.set_cons_succ])
        | (refine h_skip (i := 2) hHeld rfl (by kernel_rfl) (by kernel_rfl) (by kernel_rfl) ?_ ?_
           · rfl
           simp only [Act.put, List.setIfInBounds_toArray, List.set_cons_zero, List.set_cons_succ])
      first
        | (refine h_run (i := 3) (v := ?_) hHeld rfl (by kernel_rfl) (by kernel_rfl) (by kernel_rfl) ?_ ?_ ?_
           rotate_left
           · rfl
           · (intro x hSx; (try dsimp only at hSx); go_simp <;> with_reducible rfl)
           simp only [Act.put, List.setIfInBounds_toArray, List.set_cons_zero, List.set_cons_succ])
        | (refine h_skip (i := 3) hHeld rfl (by kernel_rfl) (by kernel_rfl) (by kernel_rfl) ?_ ?_
           · rfl
           simp only [Act.put, List.setIfInBounds_toArray, List.set_cons_zero, List.set_cons_succ])
      first
        | (refine h_run (i := 5) (v := ?_) hHeld rfl (by kernel_rfl) (by kernel_rfl) (by kernel_rfl) ?_ ?_ ?_
           rotate_left
           · rfl
           · (intro x hSx; (try dsimp only at hSx); go_simp <;> with_reducible rfl)
           simp only [Act.put, List.setIfInBounds_toArray, List.set_cons_zero, List.set_cons_succ])
        | (refine h_skip (i := 5) hHeld rfl (by kernel_rfl) (by kernel_rfl) (by kernel_rfl) ?_ ?_
           · rfl
           simp only [Act.put, List.setIfInBounds_toArray, List.set_cons_zero, List.set_cons_succ])
      first
        | (refine h_run (i := 6) (v := ?_) hHeld rfl (by kernel_rfl) (by kernel_rfl) (by kernel_rfl) ?_ ?_ ?_
           rotate_left
           · rfl
           · (intro x hSx; (try dsimp only at hSx); go_simp <;> with_reducible rfl)
           simp only [Act.put, List.setIfInBounds_toArray, List.set_cons_zero, List.set_cons_succ])
        | (refine h_skip (i := 6) hHeld rfl (by kernel_rfl) (by kernel_rfl) (by kernel_rfl) ?_ ?_
           · rfl
           simp only [Act.put, List.setIfInBounds_toArray, List.set_cons_zero, List.set_cons_succ])
      first
        | (refine h_run (i := 7) (v := ?_) hHeld rfl (by kernel_rfl) (by kernel_rfl) (by kernel_rfl) ?_ ?_ ?_
           rotate_left
           · rfl
           · (intro x hSx; (try dsimp only at hSx); go_simp <;> with_reducible rfl)
           simp only [Act.put, List.setIfInBounds_toArray, List.set_cons_zero, List.set_cons_succ])
        | (refine h_skip (i := 7) hHeld rfl (by kernel_rfl) (by kernel_rfl) (by kernel_rfl) ?_ ?_
           · rfl
           simp only [Act.put, List.setIfInBounds_toArray, List.set_cons_zero, List.set_cons_succ])
      first
        | (refine h_run (i := 8) (v := ?_) hHeld rfl (by kernel_rfl) (by kernel_rfl) (by kernel_rfl) ?_ ?_ ?_
           rotate_left
           · rfl
           · (intro x hSx; (try dsimp only at hSx); go_simp <;> with_reducible rfl)
           simp only [Act.put, List.setIfInBounds_toArray, List.set_cons_zero, List.set_cons_succ])
        | (refine h_skip (i := 8) hHeld rfl (by kernel_rfl) (by kernel_rfl) (by kernel_rfl) ?_ ?_
           · rfl
           simp only [Act.put, List.setIfInBounds_toArray, List.set_cons_zero, List.set_cons_succ])
      refine h_value (i := 4) (v := .int .i64 (S2 (q + 1))) (w' := wc.drew) (fun y : World => y.cell? ⟨g, q + 3, none⟩ = some (.int .i64 (S2 (q + 3)))) (fun _ h => h) rfl (by kernel_rfl) rfl ?_ c3 ?_
      · go_simp <;> with_reducible rfl
      simp only [Act.put, List.setIfInBounds_toArray, List.set_cons_zero, List.set_cons_succ]
      refine h_call (i := 9) (fun y : World => y.cell? ⟨g, q + 3, none⟩ = some (.int .i64 (S2 (q + 3)))) (fun _ h => h) a2.out rfl (by kernel_rfl) rfl ?_ ?_
      · go_simp <;> with_reducible rfl
      rintro _ y ⟨rfl, rfl⟩
      refine ⟨_, rfl, c3, ?_⟩
      first
        | (refine h_run (i := 10) (v := ?_) hHeld rfl (by kernel_rfl) (by kernel_rfl) (by kernel_rfl) ?_ ?_ ?_
           rotate_left
           · rfl
           · (intro x hSx; (try dsimp only at hSx); go_simp <;> with_reducible rfl)
           simp only [Act.put, List.setIfInBounds_toArray, List.set_cons_zero, List.set_cons_succ])
        | (refine h_skip (i := 10) hHeld rfl (by kernel_rfl) (by kernel_rfl) (by kernel_rfl) ?_ ?_
           · rfl
           simp only [Act.put, List.setIfInBounds_toArray, List.set_cons_zero, List.set_cons_succ])
      first
        | (refine h_run (i := 11) (v := ?_) hHeld rfl (by kernel_rfl) (by kernel_rfl) (by kernel_rfl) ?_ ?_ ?_
           rotate_left
           · rfl
           · (intro x hSx; (try dsimp only at hSx); go_simp <;> with_reducible rfl)
           simp only [Act.put, List.setIfInBounds_toArray, List.set_cons_zero, List.set_cons_succ])
        | (refine h_skip (i := 11) hHeld rfl (by kernel_rfl) (by kernel_rfl) (by kernel_rfl) ?_ ?_
           · rfl
           simp only [Act.put, List.setIfInBounds_toArray, List.set_cons_zero, List.set_cons_succ])
      refine h_write (i := 12) (w' := wc.drew.setCell ⟨g, q + 1, none⟩ (.int .i64 (satZ (S2 (q + 1) + S2 (q + 3))))) (fun y : World => y.cell? ⟨g, q + 3, none⟩ = some (.int .i64 (S2 (q + 3)))) (fun _ h => h) rfl (by kernel_rfl) rfl ?_ c3' ?_
      · go_simp <;> with_reducible rfl
      refine h_done (by kernel_rfl) ?_
      clear hHeld c1 c3 c3' f1 a2 hh2d hh2 hG2 ok2
      generalize World.setCell _ _ _ = w3 at *
      generalize fall3 q S2 = S3 at *
      have c1 := hI1.out _ _ hs.out
      have c3 := hI3.out _ _ hs.out
      have f1 := hs.out.fr (q + 1)
      have f3 := hs.out.fr (q + 3)
      by_cases h1 : S3 (q + 1) ≤ 0
      · have e : Hid (GPost w g (fall4 q S3) (.returned (.tuple #[])) ((w3.setCell ⟨g, q + 1, none⟩ (.int .i64 0)).setCell ⟨g, q + 3, none⟩ (.int .i64 0))) := hide (by
          unfold fall4; rw [if_pos h1]; exact ⟨rfl, hS3.out _ _ (hS1.out _ _ hs.out 0) 0, only_set (only_set hg.out _ _) _ _⟩)
        go_wp2_with fail
        go_end0
        exact e.out
      · have e : Hid (GPost w g (fall4 q S3) (.returned (.tuple #[])) w3) := hide (by
          unfold fall4; rw [if_neg h1]; exact ⟨rfl, hs.out, hg.out⟩)
        have d : decide (S3 (q + 1) ≤ 0) = false := decide_eq_false h1
        go_wp2_with fail
        go_end0
        exact e.out
end Go.Proofs.Ytmfagdbocidfjaa
