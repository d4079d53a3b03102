import Derived.Test.YtmfagdbocidfjaaU25
/- An engine: one's own input, and a frame more. Conditions: the numbers within which it stays. -/
namespace Go.Proofs.Ytmfagdbocidfjaa
open Go.RowKit
set_option maxRecDepth 100000 in
theorem addW_calm (A : List Int) (n : Nat) (x : Int) (h : A.length ≤ n) : addW (-1) A n x = -1 := by unfold addW; rw [if_neg (by omega)]
/-- behind going back, and one's own input -/
structure Adv2 (c : EnC) (E E2 : EnS) (f : Nat) : Prop where
  ok : StOk E2 f
  w0 : E2.Q0.wr = -1
  w1 : E2.Q1.wr = -1
  i0 : E2.Q0.I.length ≤ 251
  i1 : E2.Q1.I.length ≤ 251
  a0 : E2.Q0.A.length = f
  a1 : E2.Q1.A.length = f
  k0 : E2.Q0.kf = E.Q0.kf
  k1 : E2.Q1.kf = E.Q1.kf
  u0 : E2.Q0.uf = E.Q0.uf
  u1 : E2.Q1.uf = E.Q1.uf
section
variable {w W : World} {lo : Nat} {c : EnC} {F0 F1 FS F : Nat → Prop} {E E1 E2 : EnS} {f r : Nat}
set_option maxRecDepth 100000 in
theorem FixRel.adv2 (hn : Num c E f r) (h : FixRel E f r E1) (x : Int) : Adv2 c E (E1.setL c ((E1.ql c).add x)) f := by
  obtain ⟨g1, g2, g3, g4, g5, g6, g7, g8, g9, g10, g11, g12, g13, g14⟩ := h.num hn
  have hil := hn.il
  have hi0 := hn.i0
  have hi1 := hn.i1
  unfold EnS.setL
  unfold EnS.ql at hil ⊢
  by_cases e : c.loc = 0
  · simp only [if_pos e] at hil ⊢
    have hwr : addW E1.Q0.wr E1.Q0.A E1.Q0.I.length x = -1 := by rw [g10]; exact addW_calm _ _ _ (by rw [g4, g2]; exact hil)
    have hl : (E1.Q0.I ++ [x]).length ≤ 251 := by rw [List.length_append, g2]; simp; omega
    have p0 := g1.q0
    have p1 := g1.q1
    exact ⟨⟨g1.fr, ⟨Nat.le_trans hl (by omega), p0.a, p0.k, p0.u, p0.f⟩, p1, g1.sf, g1.le, g1.l, g1.lb, g1.ok⟩, hwr, g11, hl, by rw [g3]; omega, g4, g5, g6, g7, g8, g9⟩
  · simp only [if_neg e] at hil ⊢
    have hwr : addW E1.Q1.wr E1.Q1.A E1.Q1.I.length x = -1 := by rw [g11]; exact addW_calm _ _ _ (by rw [g5, g3]; exact hil)
    have hl : (E1.Q1.I ++ [x]).length ≤ 251 := by rw [List.length_append, g3]; simp; omega
    have p0 := g1.q0
    have p1 := g1.q1
    exact ⟨⟨g1.fr, p0, ⟨Nat.le_trans hl (by omega), p1.a, p1.k, p1.u, p1.f⟩, g1.sf, g1.le, g1.l, g1.lb, g1.ok⟩, g10, hwr, by rw [g2]; omega, hl, g4, g5, g6, g7, g8, g9⟩
set_option maxRecDepth 100000 in
theorem Adv2.step (h : Adv2 c E E2 f) (hf : f ≤ 200) (hh : Int) : StOk (E2.step f hh) (f + 1) ∧ (E2.step f hh).Q0.A.length = f + 1 ∧ (E2.step f hh).Q1.A.length = f + 1 := by
  refine ⟨(h.ok.step (by omega) hh).1, ?_, ?_⟩
  · have := useL_len E2.Q0.A f (inAt E2.Q0.I f) (by rw [h.a0]; exact Nat.le_refl _)
    have := h.a0
    show (useL _ _ _).length = _
    omega
  · have := useL_len E2.Q1.A f (inAt E2.Q1.I f) (by rw [h.a1]; exact Nat.le_refl _)
    have := h.a1
    show (useL _ _ _).length = _
    omega
set_option maxRecDepth 100000 in
theorem EnTo.add_local (h : EnTo W lo c F E1 w) (x : Int) (hi : (E1.ql c).I.length < 256) (hA : (E1.ql c).A.length ≤ 10000) (hu : (E1.ql c).uf ≤ (E1.ql c).I.length) :
    Calls Try.prog 33 #[.pointer (some ⟨c.pl, 0, none⟩), .int .u16 x] w (fun e w' => e = .returned (.int .i64 ((E1.ql c).I.length : Nat)) ∧ EnTo W lo c F (E1.setL c ((E1.ql c).add x)) w') := by
  obtain ⟨G, hG, hto⟩ := h.ql
  obtain ⟨_, _, _, hA2⟩ := h.ctx
  exact (q_add hG x hA2.lo hi hA hu).mono (fun e w' hx => ⟨hx.1, hto _ _ _ _ _ _ hx.2⟩)
set_option maxRecDepth 100000 in
theorem EnTo.drop0 (h : EnTo W lo c F E1 w) (below : Int) (hI : E1.Q0.I.length ≤ 10000) (hA : E1.Q0.A.length ≤ 10000) (hb : below ≤ 10000) (hk : below ≤ (E1.Q0.kf : Int) ∨ E1.Q0.kf < E1.Q0.I.length) (hu : below ≤ (E1.Q0.uf : Int) ∨ E1.Q0.uf < E1.Q0.A.length) :
    Calls Try.prog 37 #[.pointer (some ⟨c.p0, 0, none⟩), .int .i64 below] w (fun e w' => e = .returned (.tuple #[]) ∧ EnTo W lo c F { E1 with Q0 := E1.Q0.drop below } w') := by
  obtain ⟨G, hG, hto⟩ := h.q0
  obtain ⟨_, _, _, hA2⟩ := h.ctx
  exact (q_drop hG below hA2.lo hI hA hb hk hu).mono (fun e w' hx => ⟨hx.1, hto _ _ _ _ _ _ hx.2⟩)
set_option maxRecDepth 100000 in
theorem EnTo.drop1 (h : EnTo W lo c F E1 w) (below : Int) (hI : E1.Q1.I.length ≤ 10000) (hA : E1.Q1.A.length ≤ 10000) (hb : below ≤ 10000) (hk : below ≤ (E1.Q1.kf : Int) ∨ E1.Q1.kf < E1.Q1.I.length) (hu : below ≤ (E1.Q1.uf : Int) ∨ E1.Q1.uf < E1.Q1.A.length) :
    Calls Try.prog 37 #[.pointer (some ⟨c.p1, 0, none⟩), .int .i64 below] w (fun e w' => e = .returned (.tuple #[]) ∧ EnTo W lo c F { E1 with Q1 := E1.Q1.drop below } w') := by
  obtain ⟨G, hG, hto⟩ := h.q1
  obtain ⟨_, _, _, hA2⟩ := h.ctx
  exact (q_drop hG below hA2.lo hI hA hb hk hu).mono (fun e w' hx => ⟨hx.1, hto _ _ _ _ _ _ hx.2⟩)
set_option maxRecDepth 100000 in
theorem EnTo.step (h : EnTo W lo c F E1 w) (ok : StOk E1 f) : Calls Try.prog 36 #[.pointer (some ⟨c.x, 0, none⟩)] w (fun e w' => e = .returned (.int .i64 0) ∧ ∃ h2, EnTo W lo c F (E1.step f h2) w') := by
  obtain ⟨G0, G1, GS, hA, hT, hs⟩ := h
  refine (e_step hA ok).mono ?_
  rintro e w' ⟨he, h2, H0, H1, HS, hA2, hT2, hs2⟩
  exact ⟨he, h2, H0, H1, HS, hA2, hT.trans (hT2.mono (fun b _ hb => hs b hb)), fun b hb => (hs2 b hb).elim (fun e => hs b e) (fun e => .inr (Nat.le_trans hT.size e))⟩
set_option maxRecDepth 100000 in
theorem EnTo.fix (h : EnTo W lo c F E w) (hn : Num c E f r) : Calls Try.prog 12 #[.pointer (some ⟨c.x, 0, none⟩)] w (fun e w' => e = .returned (.int .i64 ((f - r : Nat) : Int)) ∧ ∃ E1, FixRel E f r E1 ∧ EnTo W lo c F E1 w') := by
  obtain ⟨G0, G1, GS, hA, hT, hs⟩ := h
  refine (hn.fix hA).mono ?_
  rintro e w' ⟨he, E1, hE1, H0, H1, HS, hA2, hT2, hs2⟩
  exact ⟨he, E1, hE1, H0, H1, HS, hA2, hT.trans (hT2.mono (fun b _ hb => hs b hb)), fun b hb => (hs2 b hb).elim (fun e => hs b e) (fun e => .inr (Nat.le_trans hT.size e))⟩
set_option maxRecDepth 100000 in
theorem Num.sm (hn : Num c E f r) : EnSm c E f := ⟨hn.loc, by have := hn.i0; omega, by have := hn.i1; omega, hn.fr, by have := hn.fb; omega⟩
/-- up to where it is kept -/
def EnS.below (E : EnS) (f : Nat) : Int := ((min E.conf f : Nat) : Int) - 64
def AdvPost (w : World) (lo : Nat) (c : EnC) (F : Nat → Prop) (E : EnS) (f r : Nat) (x : Int) (e : Ending) (w' : World) : Prop :=
  (E.conf + c.ah ≤ f ∧ e = .returned (.int .i64 250) ∧ EnTo w lo c F E w') ∨
  (¬ E.conf + c.ah ≤ f ∧ e = .returned (.int .i64 0) ∧ ∃ E1 hh, FixRel E f r E1 ∧ EnTo w lo c F ((E1.adv c f x hh).drops ((E1.adv c f x hh).below (f + 1))) w')
attribute [local irreducible] wIndex
attribute [local go_sem ↓] ix_qs0
attribute [local go_sem] ix_qs_0 ix_qs_1
set_option maxRecDepth 100000 in
set_option maxHeartbeats 4000000 in
theorem e_advance (h : EnAt w lo c F0 F1 FS E) (hn : Num c E f r) (x : Int) : Calls Try.prog 8 #[.pointer (some ⟨c.x, 0, none⟩), .int .u16 x] w (AdvPost w lo c (enFoot c F0 F1 FS) E f r x) := by
  have km := Lib.hid (e_may h hn.sm (by have := hn.ah; omega))
  have hE0 := Lib.hid h.to
  have hnh := Lib.hid hn
  generalize enFoot c F0 F1 FS = F at *
  clear h hn
  obtain ⟨y, hy⟩ : ∃ y, c.x = y := ⟨_, rfl⟩
  have hyh := Lib.hid hy
  rw [hy] at km ⊢
  clear hy
  by_cases hm : E.conf + c.ah ≤ f
  · rw [if_pos hm] at km
    have hend : Hid (∀ q, AdvPost w lo c F E f r x (.returned (.int .i64 250)) (w.drewN q)) := hide (fun q => .inl ⟨hm, rfl, hE0.out.drewN q⟩)
    clear hm
    go_enter Try.func8, Try.ntmps8
    go_wp2_with fail
    refine km.out.mono ?_
    rintro e w1 ⟨rfl, q, rfl⟩
    go_wp2_with fail
    go_ret
    exact hend.out q
  · rw [if_neg hm] at km
    have hmh := Lib.hid hm
    clear hm
    go_enter Try.func8, Try.ntmps8
    go_wp2_with fail
    refine km.out.mono ?_
    rintro e w1 ⟨rfl, q, rfl⟩
    have kx := Lib.hid (EnTo.fix (hE0.out.drewN q) hnh.out)
    rw [hyh.out] at kx
    go_wp2_with fail
    refine kx.out.mono ?_
    rintro e w2 ⟨rfl, E1, hrel, hE1⟩
    have hrelh := Lib.hid hrel
    have hE1h := Lib.hid hE1
    have hadv := Lib.hid (hrel.adv2 hnh.out x)
    clear hrel hE1 kx km hE0
    have kl := Lib.hid (by obtain ⟨_, _, _, hA⟩ := hE1h.out.ctx; exact e_local hA.b hnh.out.loc)
    rw [hyh.out] at kl
    have hnum := Lib.hid (hrelh.out.num hnh.out)
    have hql : Hid ((E1.ql c).I.length < 256 ∧ (E1.ql c).A.length ≤ 10000 ∧ (E1.ql c).uf ≤ (E1.ql c).I.length) := hide (by
      obtain ⟨g1, g2, g3, g4, g5, g6, g7, g8, g9, _⟩ := hnum.out
      have hil := hnh.out.il
      have := hnh.out.i0
      have := hnh.out.i1
      have := hnh.out.u0
      have := hnh.out.u1
      have := hnh.out.fb
      unfold EnS.ql at hil ⊢
      by_cases e : c.loc = 0
      · simp only [if_pos e] at hil ⊢; rw [g2, g4, g8]; omega
      · simp only [if_neg e] at hil ⊢; rw [g3, g5, g9]; omega)
    go_wp2_with fail
    refine kl.out.mono ?_
    rintro e w3 ⟨rfl, q3, rfl⟩
    have ka := Lib.hid (EnTo.add_local (hE1h.out.drewN q3) x hql.out.1 hql.out.2.1 hql.out.2.2)
    go_wp2_with fail
    refine ka.out.mono ?_
    rintro e w4 ⟨rfl, hE4⟩
    have hE4h := Lib.hid hE4
    clear hE4 ka kl hE1h hql
    have ks := Lib.hid (EnTo.step hE4h.out hadv.out.ok)
    rw [hyh.out] at ks
    go_wp2_with fail
    refine ks.out.mono ?_
    rintro e w5 ⟨rfl, hh, hE5⟩
    have hE5h : Hid (EnTo w lo c F (E1.adv c f x hh) w5) := hide hE5
    obtain ⟨s1, s2, s3⟩ := hadv.out.step hnh.out.fb hh
    have hsm : Hid (EnSm c (E1.adv c f x hh) (f + 1)) := hide ⟨hnh.out.loc, by have := hadv.out.i0; show (E1.setL c ((E1.ql c).add x)).Q0.I.length ≤ _; omega, by have := hadv.out.i1; show (E1.setL c ((E1.ql c).add x)).Q1.I.length ≤ _; omega, s1.fr, by have := hnh.out.fb; omega⟩
    have hfin : Hid (∀ w', EnTo w lo c F ((E1.adv c f x hh).drops ((E1.adv c f x hh).below (f + 1))) w' → AdvPost w lo c F E f r x (.returned (.int .i64 0)) w') := hide (fun w' h => .inr ⟨hmh.out, rfl, E1, hh, hrelh.out, h⟩)
    have hd : Hid ((E1.adv c f x hh).Q0.I.length ≤ 10000 ∧ (E1.adv c f x hh).Q0.A.length = f + 1 ∧ (E1.adv c f x hh).Q0.uf ≤ f ∧ (E1.adv c f x hh).Q1.I.length ≤ 10000 ∧ (E1.adv c f x hh).Q1.A.length = f + 1 ∧ (E1.adv c f x hh).Q1.uf ≤ f ∧ f ≤ 200) := hide ⟨hsm.out.i0, s2, by have := hadv.out.u0; have := hnh.out.u0; show (E1.setL c ((E1.ql c).add x)).Q0.uf ≤ f; omega, hsm.out.i1, s3, by have := hadv.out.u1; have := hnh.out.u1; show (E1.setL c ((E1.ql c).add x)).Q1.uf ≤ f; omega, hnh.out.fb⟩
    have hw01 : Hid ((E1.adv c f x hh).Q0.wr = -1 ∧ (E1.adv c f x hh).Q1.wr = -1) := hide ⟨hadv.out.w0, hadv.out.w1⟩
    generalize E1.adv c f x hh = E3 at *
    clear hE5 ks s1 s2 s3 hE4h hadv hnum
    have ku := Lib.hid (by obtain ⟨_, _, _, hA⟩ := hE5h.out.ctx; exact e_sure hA hsm.out hw01.out.1 hw01.out.2)
    rw [hyh.out] at ku
    go_wp2_with fail
    refine ku.out.mono ?_
    rintro e w6 ⟨rfl, q6, rfl⟩
    have hE6 := Lib.hid (hE5h.out.drewN q6)
    clear ku hE5h
    generalize w5.drewN q6 = w6 at *
    have c4 : w6.cell? ⟨y, 4, none⟩ = some (.pointer (some ⟨c.p0, 0, none⟩)) := by rw [← hyh.out]; exact hE6.out.blk.p0
    have c5 : w6.cell? ⟨y, 5, none⟩ = some (.pointer (some ⟨c.p1, 0, none⟩)) := by rw [← hyh.out]; exact hE6.out.blk.p1
    have hconf : Hid (min E3.conf (f + 1) ≤ E3.Q0.I.length ∧ min E3.conf (f + 1) ≤ E3.Q1.I.length ∧ min E3.conf (f + 1) ≤ f + 1) := hide (by unfold EnS.conf; omega)
    have hbelow : Hid (E3.below (f + 1) = ((min E3.conf (f + 1) : Nat) : Int) - 64) := hide rfl
    have hwb : IntKind.i64.wrap (((min E3.conf (f + 1) : Nat) : Int) - 64) = E3.below (f + 1) := by
      rw [← hbelow.out]
      have := hconf.out
      have := hd.out
      have := hbelow.out
      exact IntWalk.i64_in _ (by omega)
    generalize E3.below (f + 1) = bl at *
    generalize min E3.conf (f + 1) = su at *
    go_upto_region 11 with (fail)
    clear c4 c5
    go_loopw [32] (fun v32 wr => (v32 = .int .i64 0 ∧ Hid (EnTo w lo c F E3 wr)) ∨ (v32 = .int .i64 1 ∧ Hid (EnTo w lo c F { E3 with Q0 := E3.Q0.drop bl } wr)) ∨ (v32 = .int .i64 2 ∧ Hid (EnTo w lo c F { E3 with Q0 := E3.Q0.drop bl, Q1 := E3.Q1.drop bl } wr))) (fun v32 _ => 2 - (intOf v32).toNat)
    case atStart => exact .inl ⟨rfl, hE6⟩
    case round =>
      clear hE6
      rcases hrel with ⟨rfl, hE⟩ | ⟨rfl, hE⟩ | ⟨rfl, hE⟩
      · have kd := Lib.hid (EnTo.drop0 hE.out bl hd.out.1 (by have := hd.out; omega) (by have := hd.out; have := hconf.out; have := hbelow.out; omega) (by have := hconf.out; have := hbelow.out; omega) (by have := hd.out; have := hconf.out; have := hbelow.out; omega))
        go_wp2_with fail
        refine kd.out.mono ?_
        rintro e w7 ⟨rfl, hE7⟩
        have hE7h := Lib.hid hE7
        clear hE7 kd hE
        go_wp2_with fail
        refine ⟨?_, ?_⟩
        rotate_left
        · simp [intOf]
        first
          | exact .inr (.inl ⟨rfl, hE7h⟩)
          | (repeat (apply Exists.intro)
             exact ⟨.inr (.inl ⟨rfl, hE7h⟩), rfl⟩)
      · have kd := Lib.hid (EnTo.drop1 (E1 := { E3 with Q0 := E3.Q0.drop bl }) hE.out bl hd.out.2.2.2.1 (by have := hd.out; show E3.Q1.A.length ≤ _; omega) (by have := hd.out; have := hconf.out; have := hbelow.out; omega) (by have := hconf.out; have := hbelow.out; show bl ≤ (E3.Q1.kf : Int) ∨ E3.Q1.kf < E3.Q1.I.length; omega) (by have := hd.out; have := hconf.out; have := hbelow.out; show bl ≤ (E3.Q1.uf : Int) ∨ E3.Q1.uf < E3.Q1.A.length; omega))
        go_wp2_with fail
        refine kd.out.mono ?_
        rintro e w7 ⟨rfl, hE7⟩
        have hE7h := Lib.hid hE7
        clear hE7 kd hE
        go_wp2_with fail
        refine ⟨?_, ?_⟩
        rotate_left
        · simp [intOf]
        first
          | exact .inr (.inr ⟨rfl, hE7h⟩)
          | (repeat (apply Exists.intro)
             exact ⟨.inr (.inr ⟨rfl, hE7h⟩), rfl⟩)
      · have hend := Lib.hid (hfin.out wr hE.out)
        go_wp2_with fail
        go_ret
        exact hend.out
end
end Go.Proofs.Ytmfagdbocidfjaa

/- The game played with all inputs, and an engine at rest: what holds of it whatever is called. Plain. -/
namespace Go.Proofs.Ytmfagdbocidfjaa
open Go.RowKit
/-- the state behind n frames -/
def play (S0 : Nat → Int) (A B : List Int) : Nat → (Nat → Int)
  | 0 => S0
  | n + 1 => stepF (A.getD n 0) (B.getD n 0) (play S0 A B n)
set_option maxRecDepth 100000 in
theorem play_congr (S0 : Nat → Int) (A B A' B' : List Int) : ∀ n, (∀ m, m < n → A[m]? = A'[m]? ∧ B[m]? = B'[m]?) → play S0 A B n = play S0 A' B' n
  | 0, _ => rfl
  | n + 1, h => by
    have h1 := h n (by omega)
    unfold play
    rw [play_congr S0 A B A' B' n (fun m hm => h m (by omega)), List.getD_eq_getElem?_getD, List.getD_eq_getElem?_getD, List.getD_eq_getElem?_getD, List.getD_eq_getElem?_getD, h1.1, h1.2]
set_option maxRecDepth 100000 in
theorem play_ok {S0 : Nat → Int} (h : GOk S0) (A B : List Int) : ∀ n, GOk (play S0 A B n)
  | 0 => h
  | n + 1 => (play_ok h A B n).step
set_option maxRecDepth 100000 in
theorem play_fr {S0 : Nat → Int} (h : S0 0 = 0) (A B : List Int) : ∀ n : Nat, n ≤ 10000 → play S0 A B n 0 = (n : Nat)
  | 0, _ => h
  | n + 1, hn => by
    have ih := play_fr h A B n (by omega)
    show stepF _ _ _ 0 = _
    rw [step_frame, ih]
    unfold wrap64
    omega
/-- a player's inputs, as far as they are known, are those that were used -/
def Agree (Q : PlS) (g : Nat) : Prop := ∀ m, m < g → m < Q.I.length → Q.A[m]? = Q.I[m]?
/-- while it is played again -/
structure Mid (S0 : Nat → Int) (E : EnS) (g : Nat) : Prop where
  now : E.S = play S0 E.Q0.A E.Q1.A g
  sv : ∀ j S hh, E.sf + j ≤ g → E.L[j]? = some (S, hh) → S = play S0 E.Q0.A E.Q1.A (E.sf + j)
  b0 : Agree E.Q0 g
  b1 : Agree E.Q1 g
  f0 : g ≤ E.Q0.A.length
  f1 : g ≤ E.Q1.A.length
  sf : E.sf ≤ g
  le : g + 1 ≤ E.sf + E.L.length
  l : E.L.length ≤ 64
set_option maxRecDepth 100000 in
theorem inAt_get (I : List Int) {g : Nat} (h : g < I.length) : I[g]? = some (inAt I g) := getD_some I g _ h
set_option maxRecDepth 100000 in
theorem Agree.use {Q : PlS} {g : Nat} (h : Agree Q g) (hf : g ≤ Q.A.length) : Agree (Q.use g) (g + 1) := by
  intro m hm hl
  show (useL _ _ _)[m]? = Q.I[m]?
  rw [useL_get _ _ _ hf]
  by_cases e : m = g
  · subst e; rw [if_pos rfl]; exact (inAt_get Q.I hl).symm
  · rw [if_neg e]; exact h m (by omega) hl
set_option maxRecDepth 100000 in
theorem use_play (S0 : Nat → Int) (E : EnS) (g : Nat) (f0 : g ≤ E.Q0.A.length) (f1 : g ≤ E.Q1.A.length) (n : Nat) (hn : n ≤ g) : play S0 (E.Q0.use g).A (E.Q1.use g).A n = play S0 E.Q0.A E.Q1.A n := by
  refine play_congr _ _ _ _ _ n (fun m hm => ?_)
  refine ⟨?_, ?_⟩
  · show (useL _ _ _)[m]? = _; rw [useL_get _ _ _ f0, if_neg (by omega)]
  · show (useL _ _ _)[m]? = _; rw [useL_get _ _ _ f1, if_neg (by omega)]
set_option maxRecDepth 100000 in
theorem use_next (S0 : Nat → Int) (E : EnS) (g : Nat) (f0 : g ≤ E.Q0.A.length) (f1 : g ≤ E.Q1.A.length) : play S0 (E.Q0.use g).A (E.Q1.use g).A (g + 1) = stepF (inAt E.Q0.I g) (inAt E.Q1.I g) (play S0 E.Q0.A E.Q1.A g) := by
  have h0 : (E.Q0.use g).A.getD g 0 = inAt E.Q0.I g := by
    show (useL _ _ _).getD g 0 = _
    rw [List.getD_eq_getElem?_getD, useL_get _ _ _ f0, if_pos rfl]; rfl
  have h1 : (E.Q1.use g).A.getD g 0 = inAt E.Q1.I g := by
    show (useL _ _ _).getD g 0 = _
    rw [List.getD_eq_getElem?_getD, useL_get _ _ _ f1, if_pos rfl]; rfl
  show stepF ((E.Q0.use g).A.getD g 0) ((E.Q1.use g).A.getD g 0) (play S0 (E.Q0.use g).A (E.Q1.use g).A g) = _
  rw [h0, h1, use_play S0 E g f0 f1 g (Nat.le_refl _)]
set_option maxRecDepth 100000 in
/-- what is saved then -/
theorem saveF_get (first : Nat) (L : List ((Nat → Int) × Int)) (X : Nat → Int) (h : Int) (g : Nat) (h1 : first ≤ g) (h2 : g ≤ first + L.length) {j : Nat} {S : Nat → Int} {hh : Int} (hj : (saveF first L X h g).2[j]? = some (S, hh)) :
    ((saveF first L X h g).1 + j = g ∧ S = X) ∨ ((saveF first L X h g).1 + j < g ∧ ∃ i, first + i = (saveF first L X h g).1 + j ∧ L[i]? = some (S, hh)) := by
  unfold saveF putF at hj ⊢
  have hl : (L.take (g - first)).length = g - first := by rw [List.length_take]; omega
  rw [hl] at hj ⊢
  by_cases e : g - first = 64
  · rw [if_pos e] at hj ⊢
    show (first + 1 + j = g ∧ S = X) ∨ _
    have hj2 : ((L.take (g - first)).drop 1 ++ [(X, h)])[j]? = some (S, hh) := hj
    rcases Nat.lt_or_ge j 63 with hlt | hge
    · right
      refine ⟨by show first + 1 + j < g; omega, j + 1, by show first + (j + 1) = first + 1 + j; omega, ?_⟩
      rw [List.getElem?_append_left (by rw [List.length_drop, hl]; omega), List.getElem?_drop, List.getElem?_take, if_pos (by omega), Nat.add_comm 1 j] at hj2
      exact hj2
    · left
      rw [List.getElem?_append_right (by rw [List.length_drop, hl]; omega), List.length_drop, hl] at hj2
      have hb := (List.getElem?_eq_some_iff.1 hj2).1
      have hj63 : j - (g - first - 1) = 0 := by simp at hb; omega
      rw [hj63] at hj2
      cases hj2
      refine ⟨?_, rfl⟩
      have : j < 64 := by simp at hb; omega
      omega
  · rw [if_neg e] at hj ⊢
    show (first + j = g ∧ S = X) ∨ _
    have hj2 : (L.take (g - first) ++ [(X, h)])[j]? = some (S, hh) := hj
    rcases Nat.lt_or_ge j (g - first) with hlt | hge
    · right
      refine ⟨by show first + j < g; omega, j, rfl, ?_⟩
      rw [List.getElem?_append_left (by omega), List.getElem?_take, if_pos hlt] at hj2
      exact hj2
    · left
      rw [List.getElem?_append_right (by omega), hl] at hj2
      have hb := (List.getElem?_eq_some_iff.1 hj2).1
      have hj0 : j - (g - first) = 0 := by simp at hb; omega
      rw [hj0] at hj2
      cases hj2
      exact ⟨by omega, rfl⟩
set_option maxRecDepth 100000 in
theorem Mid.step {S0 : Nat → Int} {E : EnS} {g : Nat} (h : Mid S0 E g) (hh : Int) : Mid S0 (E.step g hh) (g + 1) := by
  obtain ⟨s1, s2, s3⟩ := saveF_sum E.sf E.L (stepF (inAt E.Q0.I g) (inAt E.Q1.I g) E.S) hh (g + 1) (Nat.le_succ_of_le h.sf) h.le h.l
  have hnext : stepF (inAt E.Q0.I g) (inAt E.Q1.I g) E.S = play S0 (E.Q0.use g).A (E.Q1.use g).A (g + 1) := by rw [use_next S0 E g h.f0 h.f1, h.now]
  refine ⟨hnext, fun j S h2 hj hL => ?_, h.b0.use h.f0, h.b1.use h.f1, ?_, ?_, s3, ?_, s2⟩
  · have hj2 : (saveF E.sf E.L (stepF (inAt E.Q0.I g) (inAt E.Q1.I g) E.S) hh (g + 1)).1 + j ≤ g + 1 := hj
    show S = play S0 (E.Q0.use g).A (E.Q1.use g).A ((saveF E.sf E.L (stepF (inAt E.Q0.I g) (inAt E.Q1.I g) E.S) hh (g + 1)).1 + j)
    rcases saveF_get _ _ _ _ _ (Nat.le_succ_of_le h.sf) h.le hL with ⟨e, rfl⟩ | ⟨e, i, ei, hi⟩
    · rw [e]; exact hnext
    · rw [← ei, use_play S0 E g h.f0 h.f1 _ (by omega)]
      exact h.sv i S h2 (by omega) hi
  · show g + 1 ≤ (useL _ _ _).length; rw [useL_len _ _ _ h.f0]; omega
  · show g + 1 ≤ (useL _ _ _).length; rw [useL_len _ _ _ h.f1]; omega
  · show g + 1 + 1 ≤ (saveF _ _ _ _ _).1 + (saveF _ _ _ _ _).2.length; omega
set_option maxRecDepth 100000 in
theorem Mid.steps {S0 : Nat → Int} {E : EnS} {r : Nat} (h : Mid S0 E r) : ∀ {n : Nat} {E' : EnS}, Steps E r n E' → Mid S0 E' (r + n)
  | 0, E', hs => by cases (show E' = E from hs); exact h
  | n + 1, E', ⟨E'', hh, h1, h2⟩ => by
    subst h2
    exact (Mid.steps h h1).step hh
/-- up to which frame a player's inputs are known to have been right -/
def upTo (Q : PlS) (f : Nat) : Nat := if Q.wr = -1 then f else Q.wr.toNat
/-- an engine at rest, at frame f -/
structure Rest (c : EnC) (S0 : Nat → Int) (E : EnS) (f : Nat) : Prop where
  loc : c.loc < 2
  del : c.del ≤ 8
  ah1 : 1 ≤ c.ah
  ah : c.ah ≤ 16
  ok0 : GOk S0
  fr0 : S0 0 = 0
  fb : f ≤ 150
  a0 : E.Q0.A.length = f
  a1 : E.Q1.A.length = f
  il : (E.ql c).I.length = c.del + f
  ir : (E.qr c).I.length ≤ 170
  ia : f ≤ (E.qr c).I.length + c.ah
  wl : (E.ql c).wr = -1
  wr : (E.qr c).wr = -1 ∨ ∃ k : Nat, (E.qr c).wr = (k : Nat) ∧ k < f ∧ f ≤ k + c.ah ∧ k < (E.qr c).I.length
  k0 : E.Q0.kf ≤ f - 64
  k1 : E.Q1.kf ≤ f - 64
  u0 : E.Q0.uf ≤ f - 64
  u1 : E.Q1.uf ≤ f - 64
  sf : E.sf ≤ f - 63
  sl : E.sf + E.L.length = f + 1
  l : E.L.length ≤ 64
  now : E.S = play S0 E.Q0.A E.Q1.A f
  sv : ∀ j S hh, E.L[j]? = some (S, hh) → S = play S0 E.Q0.A E.Q1.A (E.sf + j)
  b0 : Agree E.Q0 (upTo E.Q0 f)
  b1 : Agree E.Q1 (upTo E.Q1 f)
  wo : E.wo ≤ (c.ah : Nat)
/-- to which frame it goes back -/
def backTo (c : EnC) (E : EnS) (f : Nat) : Nat := upTo (E.qr c) f
section
variable {c : EnC} {S0 : Nat → Int} {E E1 : EnS} {f : Nat}
set_option maxRecDepth 100000 in
theorem Rest.back (h : Rest c S0 E f) : backTo c E f ≤ f ∧ f ≤ backTo c E f + c.ah := by
  have := h.ah1
  unfold backTo upTo
  rcases h.wr with e | ⟨k, e, h1, h2, h3⟩
  · rw [if_pos e]; omega
  · rw [if_neg (by omega), e]; omega
set_option maxRecDepth 100000 in
theorem Rest.num (h : Rest c S0 E f) : Num c E f (backTo c E f) := by
  have hb := h.back
  have hah := h.ah
  have hfb := h.fb
  have hdel := h.del
  have hil := h.il
  have hir := h.ir
  have hsl := h.sl
  have hmr : minW (minW f E.Q0.wr) E.Q1.wr = (backTo c E f : Nat) := by
    have hwl := h.wl
    have hwr := h.wr
    unfold backTo upTo minW
    unfold EnS.ql at hwl
    unfold EnS.qr at hwr ⊢
    by_cases e : c.loc = 0
    · simp only [if_pos e] at hwl hwr ⊢
      rw [hwl]
      rcases hwr with e2 | ⟨k, e2, h1, h2, h3⟩
      · rw [e2]; simp
      · have n1 : ¬ (0 : Int) ≤ -1 := by omega
        have n2 : (0 : Int) ≤ (k : Int) := by omega
        have n3 : ¬ (k : Int) = -1 := by omega
        rw [e2]
        simp only [if_neg n1, if_pos n2, if_neg n3]
        omega
    · simp only [if_neg e] at hwl hwr ⊢
      rw [hwl]
      rcases hwr with e2 | ⟨k, e2, h1, h2, h3⟩
      · rw [e2]; simp
      · have n1 : ¬ (0 : Int) ≤ -1 := by omega
        have n2 : (0 : Int) ≤ (k : Int) := by omega
        have n3 : ¬ (k : Int) = -1 := by omega
        rw [e2]
        simp only [if_neg n1, if_pos n2, if_neg n3]
        omega
  have hi01 : E.Q0.I.length ≤ 250 ∧ E.Q1.I.length ≤ 250 := by
    unfold EnS.ql at hil
    unfold EnS.qr at hir
    by_cases e : c.loc = 0
    · simp only [if_pos e] at hil hir; omega
    · simp only [if_neg e] at hil hir; omega
  exact ⟨h.loc, h.ah, by omega, by rw [h.now, play_fr h.fr0 _ _ f (by omega)], h.a0, h.a1, hi01.1, hi01.2, by omega, h.k0, h.k1, h.u0, h.u1, h.sf, h.sl, h.l, hb.1, by omega, hmr, by rw [h.now]; exact play_ok h.ok0 _ _ f, fun j S hh hj => by
    have := (List.getElem?_eq_some_iff.1 hj).1
    rw [h.sv j S hh hj]; exact ⟨play_fr h.fr0 _ _ _ (by omega), play_ok h.ok0 _ _ _⟩⟩
set_option maxRecDepth 100000 in
theorem Agree.mono {Q : PlS} {g g' : Nat} (h : Agree Q g) (hg : g' ≤ g) : Agree Q g' := fun m hm hl => h m (by omega) hl
set_option maxRecDepth 100000 in
/-- it has gone back, and plays on: nothing is thought wrong any more -/
theorem Rest.fix (h : Rest c S0 E f) (hr : FixRel E f (backTo c E f) E1) : Rest c S0 E1 f ∧ (E1.qr c).wr = -1 ∧ E1.Q0.I = E.Q0.I ∧ E1.Q1.I = E.Q1.I := by
  obtain ⟨g1, g2, g3, g4, g5, g6, g7, g8, g9, g10, g11, g12, g13, g14⟩ := hr.num h.num
  have hb := h.back
  have hlen : (E1.ql c).I.length = (E.ql c).I.length ∧ (E1.qr c).I.length = (E.qr c).I.length := by
    unfold EnS.ql EnS.qr
    by_cases e : c.loc = 0
    · simp only [if_pos e]; rw [g2, g3]; exact ⟨rfl, rfl⟩
    · simp only [if_neg e]; rw [g2, g3]; exact ⟨rfl, rfl⟩
  have hw : (E1.ql c).wr = -1 ∧ (E1.qr c).wr = -1 := by
    unfold EnS.ql EnS.qr
    by_cases e : c.loc = 0
    · simp only [if_pos e]; exact ⟨g10, g11⟩
    · simp only [if_neg e]; exact ⟨g11, g10⟩
  have hmid : Mid S0 E1 f := by
    have hup : backTo c E f ≤ upTo E.Q0 f ∧ backTo c E f ≤ upTo E.Q1 f := by
      have hwl := h.wl
      unfold backTo
      unfold EnS.ql at hwl
      unfold EnS.qr
      by_cases e : c.loc = 0
      · simp only [if_pos e] at hwl ⊢
        refine ⟨?_, Nat.le_refl _⟩
        have : backTo c E f ≤ f := hb.1
        unfold backTo EnS.qr at this
        simp only [if_pos e] at this
        show _ ≤ upTo E.Q0 f
        rw [show upTo E.Q0 f = f from if_pos hwl]; exact this
      · simp only [if_neg e] at hwl ⊢
        refine ⟨Nat.le_refl _, ?_⟩
        have : backTo c E f ≤ f := hb.1
        unfold backTo EnS.qr at this
        simp only [if_neg e] at this
        show _ ≤ upTo E.Q1 f
        rw [show upTo E.Q1 f = f from if_pos hwl]; exact this
    have hsl := h.sl
    have hsf := h.sf
    have ha0 := h.a0
    have ha1 := h.a1
    have hah := h.ah
    rcases hr with ⟨e, rfl⟩ | ⟨e, S, hh, E2, hg, hst, rfl⟩
    · rw [e] at hup
      exact ⟨h.now, fun j S hh _ hj => h.sv j S hh hj, h.b0.mono hup.1, h.b1.mono hup.2, by show f ≤ E.Q0.A.length; omega, by show f ≤ E.Q1.A.length; omega, by show E.sf ≤ f; omega, by show f + 1 ≤ E.sf + E.L.length; omega, h.l⟩
    · have hS := h.sv _ S hh hg
      rw [show E.sf + (backTo c E f - E.sf) = backTo c E f by omega] at hS
      have m0 : Mid S0 { E.calm with S := S } (backTo c E f) := ⟨hS, fun j S2 h2 _ hj => h.sv j S2 h2 hj, h.b0.mono hup.1, h.b1.mono hup.2, by show _ ≤ E.Q0.A.length; omega, by show _ ≤ E.Q1.A.length; omega, by show E.sf ≤ _; omega, by show _ ≤ E.sf + E.L.length; omega, h.l⟩
      have m1 := m0.steps hst
      rw [show backTo c E f + (f - backTo c E f) = f by omega] at m1
      exact ⟨m1.now, m1.sv, m1.b0, m1.b1, m1.f0, m1.f1, m1.sf, m1.le, m1.l⟩
  refine ⟨⟨h.loc, h.del, h.ah1, h.ah, h.ok0, h.fr0, h.fb, g4, g5, by rw [hlen.1]; exact h.il, by rw [hlen.2]; exact h.ir, by rw [hlen.2]; exact h.ia, hw.1, .inl hw.2, by rw [g6]; exact h.k0, by rw [g7]; exact h.k1, by rw [g8]; exact h.u0, by rw [g9]; exact h.u1, g12, g13, hmid.l, hmid.now, fun j S hh hj => hmid.sv j S hh (by have := (List.getElem?_eq_some_iff.1 hj).1; omega) hj, by rw [show upTo E1.Q0 f = f from if_pos g10]; exact hmid.b0, by rw [show upTo E1.Q1 f = f from if_pos g11]; exact hmid.b1, ?_⟩, hw.2, g2, g3⟩
  rw [g14]
  have := h.wo
  split
  · exact this
  · omega
end
end Go.Proofs.Ytmfagdbocidfjaa
