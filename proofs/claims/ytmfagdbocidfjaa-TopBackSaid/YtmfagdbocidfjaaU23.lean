import Derived.Test.YtmfagdbocidfjaaU22
import Derived.Test.YtmfagdbocidfjaaU19
/- An engine by what it holds. Lemmas alone. -/
namespace Go.Proofs.Ytmfagdbocidfjaa
open Go.RowKit
/-- what an engine holds -/
structure EnS where
  Q0 : PlS
  Q1 : PlS
  sf : Nat
  L : List ((Nat → Int) × Int)
  S : Nat → Int
  wo : Int
structure EnAt (W : World) (lo : Nat) (c : EnC) (F0 F1 FS : Nat → Prop) (E : EnS) : Prop where
  b : EnB W c E.S E.wo
  q0 : QuIs W lo c.p0 F0 E.Q0.I E.Q0.A E.Q0.kf E.Q0.uf E.Q0.wr
  q1 : QuIs W lo c.p1 F1 E.Q1.I E.Q1.A E.Q1.kf E.Q1.uf E.Q1.wr
  sv : SvIs W lo c.ps FS E.sf E.L
  dj : ∀ b, F0 b → ¬ F1 b
  lx : lo ≤ c.x
def enFoot (c : EnC) (F0 F1 FS : Nat → Prop) (b : Nat) : Prop := b = c.x ∨ F0 b ∨ F1 b ∨ FS b
/-- an engine that has turned from one world to another -/
def EnTo (W : World) (lo : Nat) (c : EnC) (F : Nat → Prop) (E : EnS) (W' : World) : Prop :=
  ∃ F0 F1 FS, EnAt W' lo c F0 F1 FS E ∧ Touch W W' F ∧ ∀ b, enFoot c F0 F1 FS b → F b ∨ W.heap.size ≤ b
set_option maxRecDepth 100000 in
theorem QuIs.ty {W : World} {lo p kf uf : Nat} {F : Nat → Prop} {I A : List Int} {wr : Int} (h : QuIs W lo p F I A kf uf wr) {b : Nat} (hF : F b) : ∃ C T, W.heap[b]? = some (.cells C T (0, 0)) ∧ (T = 145 ∨ T = 177 ∨ T = 34) := by
  obtain ⟨kr, ur, kv, uv, s, g1, _, _, _, _, g2⟩ := h
  rcases (g2 b).1 hF with e | e | e | e | e
  · subst e; exact ⟨_, _, g1.blk, .inl rfl⟩
  · subst e; exact ⟨_, _, g1.known.blk, .inr (.inl rfl)⟩
  · subst e; exact ⟨_, _, g1.used.blk, .inr (.inl rfl)⟩
  · obtain ⟨_, C, hC⟩ := g1.known.row.lt b e; exact ⟨_, _, hC, .inr (.inr rfl)⟩
  · obtain ⟨_, C, hC⟩ := g1.used.row.lt b e; exact ⟨_, _, hC, .inr (.inr rfl)⟩
set_option maxRecDepth 100000 in
theorem QuIs.sv {W : World} {lo p kf uf lo2 p2 first : Nat} {F G : Nat → Prop} {I A : List Int} {wr : Int} {L : List ((Nat → Int) × Int)} (h : QuIs W lo p F I A kf uf wr) (h2 : SvIs W lo2 p2 G first L) {b : Nat} (hF : F b) : ¬ G b := by
  obtain ⟨C, T, hb, hT⟩ := h.ty hF
  rcases hT with rfl | rfl | rfl
  · exact h2.not hb (by decide) (by decide) (by decide)
  · exact h2.not hb (by decide) (by decide) (by decide)
  · exact h2.not hb (by decide) (by decide) (by decide)
section
variable {W W1 W2 : World} {lo : Nat} {c : EnC} {F F0 F1 FS : Nat → Prop} {E : EnS}
set_option maxRecDepth 100000 in
theorem EnAt.x0 (h : EnAt W lo c F0 F1 FS E) : ¬ F0 c.x := by obtain ⟨r1, r2, hb⟩ := h.b; exact h.q0.not hb (by decide) (by decide) (by decide)
set_option maxRecDepth 100000 in
theorem EnAt.x1 (h : EnAt W lo c F0 F1 FS E) : ¬ F1 c.x := by obtain ⟨r1, r2, hb⟩ := h.b; exact h.q1.not hb (by decide) (by decide) (by decide)
set_option maxRecDepth 100000 in
theorem EnAt.xs (h : EnAt W lo c F0 F1 FS E) : ¬ FS c.x := by obtain ⟨r1, r2, hb⟩ := h.b; exact h.sv.not hb (by decide) (by decide) (by decide)
set_option maxRecDepth 100000 in
theorem EnAt.lt (h : EnAt W lo c F0 F1 FS E) : ∀ b, enFoot c F0 F1 FS b → b < W.heap.size := by
  rintro b (rfl | hb | hb | hb)
  · exact h.b.lt
  · exact h.q0.lt b hb
  · exact h.q1.lt b hb
  · exact h.sv.lt b hb
set_option maxRecDepth 100000 in
theorem EnAt.ge (h : EnAt W lo c F0 F1 FS E) : ∀ b, enFoot c F0 F1 FS b → lo ≤ b := by
  rintro b (rfl | hb | hb | hb)
  · exact h.lx
  · exact h.q0.ge b hb
  · exact h.q1.ge b hb
  · exact h.sv.ge b hb
set_option maxRecDepth 100000 in
theorem EnAt.keep (h : EnAt W lo c F0 F1 FS E) (e : ∀ b, enFoot c F0 F1 FS b → W1.heap[b]? = W.heap[b]?) : EnAt W1 lo c F0 F1 FS E :=
  ⟨h.b.keep (e c.x (.inl rfl)), h.q0.keep (fun b hb => e b (.inr (.inl hb))), h.q1.keep (fun b hb => e b (.inr (.inr (.inl hb)))), h.sv.keep (fun b hb => e b (.inr (.inr (.inr hb)))), h.dj, h.lx⟩
set_option maxRecDepth 100000 in
theorem EnAt.drewN (h : EnAt W lo c F0 F1 FS E) (q : Nat) : EnAt (W.drewN q) lo c F0 F1 FS E := h.keep fun _ _ => rfl
set_option maxRecDepth 100000 in
theorem EnAt.below (h : EnAt W lo c F0 F1 FS E) (hB : Below W.heap.size W W1) : EnAt W1 lo c F0 F1 FS E := h.keep fun b hb => hB.block b (h.lt b hb)
set_option maxRecDepth 100000 in
theorem EnAt.to (h : EnAt W lo c F0 F1 FS E) : EnTo W lo c (enFoot c F0 F1 FS) E W := ⟨F0, F1, FS, h, Touch.refl W _, fun _ hb => .inl hb⟩
set_option maxRecDepth 100000 in
theorem EnTo.drewN (h : EnTo W lo c F E W1) (q : Nat) : EnTo W lo c F E (W1.drewN q) := by
  obtain ⟨F0, F1, FS, h1, h2, h3⟩ := h
  exact ⟨F0, F1, FS, h1.drewN q, h2.drewN q, h3⟩
set_option maxRecDepth 100000 in
theorem EnTo.below (h : EnTo W lo c F E W1) (hB : Below W1.heap.size W1 W2) : EnTo W lo c F E W2 := by
  obtain ⟨F0, F1, FS, h1, h2, h3⟩ := h
  exact ⟨F0, F1, FS, h1.below hB, h2.trans (Touch.below hB _), h3⟩
set_option maxRecDepth 100000 in
theorem EnTo.size (h : EnTo W lo c F E W1) : W.heap.size ≤ W1.heap.size := by obtain ⟨_, _, _, _, h2, _⟩ := h; exact h2.size
set_option maxRecDepth 100000 in
theorem EnTo.q0 (h : EnTo W lo c F E W1) : ∃ G, QuIs W1 lo c.p0 G E.Q0.I E.Q0.A E.Q0.kf E.Q0.uf E.Q0.wr ∧ ∀ W2 I A kf uf wr, QuTo W1 lo c.p0 G I A kf uf wr W2 → EnTo W lo c F { E with Q0 := ⟨I, A, kf, uf, wr⟩ } W2 := by
  obtain ⟨F0, F1, FS, hA, hT, hs⟩ := h
  refine ⟨F0, hA.q0, fun W2 I A kf uf wr hq => ?_⟩
  obtain ⟨F0', h1, h2, h3⟩ := hq
  refine ⟨F0', F1, FS, ⟨hA.b.keep (h2.block c.x hA.b.lt hA.x0), h1, hA.q1.touch h2 (fun b hb hc => hA.dj b hc hb), hA.sv.touch h2 (fun b hb hc => hA.q0.sv hA.sv hc hb), fun b hb hc => ?_, hA.lx⟩, hT.trans (h2.mono (fun b _ hb => hs b (.inr (.inl hb)))), fun b hb => ?_⟩
  · rcases h3 b hb with hb | hb
    · exact hA.dj b hb hc
    · have := hA.q1.lt b hc; omega
  · rcases hb with hb | hb | hb | hb
    · exact hs b (.inl hb)
    · rcases h3 b hb with hb | hb
      · exact hs b (.inr (.inl hb))
      · exact .inr (Nat.le_trans hT.size hb)
    · exact hs b (.inr (.inr (.inl hb)))
    · exact hs b (.inr (.inr (.inr hb)))
set_option maxRecDepth 100000 in
theorem EnTo.q1 (h : EnTo W lo c F E W1) : ∃ G, QuIs W1 lo c.p1 G E.Q1.I E.Q1.A E.Q1.kf E.Q1.uf E.Q1.wr ∧ ∀ W2 I A kf uf wr, QuTo W1 lo c.p1 G I A kf uf wr W2 → EnTo W lo c F { E with Q1 := ⟨I, A, kf, uf, wr⟩ } W2 := by
  obtain ⟨F0, F1, FS, hA, hT, hs⟩ := h
  refine ⟨F1, hA.q1, fun W2 I A kf uf wr hq => ?_⟩
  obtain ⟨F1', h1, h2, h3⟩ := hq
  refine ⟨F0, F1', FS, ⟨hA.b.keep (h2.block c.x hA.b.lt hA.x1), hA.q0.touch h2 (fun b hb hc => hA.dj b hb hc), h1, hA.sv.touch h2 (fun b hb hc => hA.q1.sv hA.sv hc hb), fun b hc hb => ?_, hA.lx⟩, hT.trans (h2.mono (fun b _ hb => hs b (.inr (.inr (.inl hb))))), fun b hb => ?_⟩
  · rcases h3 b hb with hb | hb
    · exact hA.dj b hc hb
    · have := hA.q0.lt b hc; omega
  · rcases hb with hb | hb | hb | hb
    · exact hs b (.inl hb)
    · exact hs b (.inr (.inl hb))
    · rcases h3 b hb with hb | hb
      · exact hs b (.inr (.inr (.inl hb)))
      · exact .inr (Nat.le_trans hT.size hb)
    · exact hs b (.inr (.inr (.inr hb)))
set_option maxRecDepth 100000 in
theorem EnTo.sv (h : EnTo W lo c F E W1) : ∃ G, SvIs W1 lo c.ps G E.sf E.L ∧ ∀ W2 sf L, SvTo W1 lo c.ps G sf L W2 → EnTo W lo c F { E with sf := sf, L := L } W2 := by
  obtain ⟨F0, F1, FS, hA, hT, hs⟩ := h
  refine ⟨FS, hA.sv, fun W2 sf L hq => ?_⟩
  obtain ⟨FS', h1, h2, h3⟩ := hq
  refine ⟨F0, F1, FS', ⟨hA.b.keep (h2.block c.x hA.b.lt hA.xs), hA.q0.touch h2 (fun b hb hc => hA.q0.sv hA.sv hb hc), hA.q1.touch h2 (fun b hb hc => hA.q1.sv hA.sv hb hc), h1, hA.dj, hA.lx⟩, hT.trans (h2.mono (fun b _ hb => hs b (.inr (.inr (.inr hb))))), fun b hb => ?_⟩
  rcases hb with hb | hb | hb | hb
  · exact hs b (.inl hb)
  · exact hs b (.inr (.inl hb))
  · exact hs b (.inr (.inr (.inl hb)))
  · rcases h3 b hb with hb | hb
    · exact hs b (.inr (.inr (.inr hb)))
    · exact .inr (Nat.le_trans hT.size hb)
set_option maxRecDepth 100000 in
theorem EnTo.b (h : EnTo W lo c F E W1) {S : Nat → Int} {wo : Int} (hT2 : Touch W1 W2 (fun b => b = c.x)) (hb : EnB W1 c E.S E.wo → EnB W2 c S wo) : EnTo W lo c F { E with S := S, wo := wo } W2 := by
  obtain ⟨F0, F1, FS, hA, hT, hs⟩ := h
  exact ⟨F0, F1, FS, ⟨hb hA.b, hA.q0.touch hT2 (fun b hb e => hA.x0 (e ▸ hb)), hA.q1.touch hT2 (fun b hb e => hA.x1 (e ▸ hb)), hA.sv.touch hT2 (fun b hb e => hA.xs (e ▸ hb)), hA.dj, hA.lx⟩, hT.trans (hT2.mono (fun b _ hb => hs b (.inl hb))), hs⟩
set_option maxRecDepth 100000 in
theorem EnTo.ctx (h : EnTo W lo c F E W1) : ∃ F0 F1 FS, EnAt W1 lo c F0 F1 FS E := by obtain ⟨F0, F1, FS, hA, _, _⟩ := h; exact ⟨F0, F1, FS, hA⟩
set_option maxRecDepth 100000 in
theorem EnTo.blk (h : EnTo W lo c F E W1) : EnB W1 c E.S E.wo := by obtain ⟨F0, F1, FS, hA, _, _⟩ := h; exact hA.b
end
/-- one's own, and the peer's -/
def EnS.ql (E : EnS) (c : EnC) : PlS := if c.loc = 0 then E.Q0 else E.Q1
def EnS.qr (E : EnS) (c : EnC) : PlS := if c.loc = 0 then E.Q1 else E.Q0
def EnS.setL (E : EnS) (c : EnC) (Q : PlS) : EnS := if c.loc = 0 then { E with Q0 := Q } else { E with Q1 := Q }
def EnS.setR (E : EnS) (c : EnC) (Q : PlS) : EnS := if c.loc = 0 then { E with Q1 := Q } else { E with Q0 := Q }
section
variable {W W1 : World} {lo : Nat} {c : EnC} {F : Nat → Prop} {E : EnS}
set_option maxRecDepth 100000 in
theorem EnTo.ql (h : EnTo W lo c F E W1) : ∃ G, QuIs W1 lo c.pl G (E.ql c).I (E.ql c).A (E.ql c).kf (E.ql c).uf (E.ql c).wr ∧ ∀ W2 I A kf uf wr, QuTo W1 lo c.pl G I A kf uf wr W2 → EnTo W lo c F (E.setL c ⟨I, A, kf, uf, wr⟩) W2 := by
  unfold EnS.ql EnC.pl EnS.setL
  by_cases e : c.loc = 0
  · simp only [if_pos e]; exact h.q0
  · simp only [if_neg e]; exact h.q1
set_option maxRecDepth 100000 in
theorem EnTo.qr (h : EnTo W lo c F E W1) : ∃ G, QuIs W1 lo c.pr G (E.qr c).I (E.qr c).A (E.qr c).kf (E.qr c).uf (E.qr c).wr ∧ ∀ W2 I A kf uf wr, QuTo W1 lo c.pr G I A kf uf wr W2 → EnTo W lo c F (E.setR c ⟨I, A, kf, uf, wr⟩) W2 := by
  unfold EnS.qr EnC.pr EnS.setR
  by_cases e : c.loc = 0
  · simp only [if_pos e]; exact h.q1
  · simp only [if_neg e]; exact h.q0
end
end Go.Proofs.Ytmfagdbocidfjaa

/- An engine: of how many frames both inputs are known, whether it may go on, up to which frame it is sure, an input of the peer. Conditions: what it holds. -/
namespace Go.Proofs.Ytmfagdbocidfjaa
open Go.RowKit
def EnS.conf (E : EnS) : Nat := min E.Q0.I.length E.Q1.I.length
/-- no list is so long that a number could be too great -/
structure EnSm (c : EnC) (E : EnS) (f : Nat) : Prop where
  loc : c.loc < 2
  i0 : E.Q0.I.length ≤ 10000
  i1 : E.Q1.I.length ≤ 10000
  fr : E.S 0 = (f : Nat)
  f : f ≤ 10000
set_option maxRecDepth 100000 in
theorem EnS.qlr (E : EnS) (c : EnC) : (E.ql c).I.length ≤ max E.Q0.I.length E.Q1.I.length ∧ (E.qr c).I.length ≤ max E.Q0.I.length E.Q1.I.length ∧ min (E.ql c).I.length (E.qr c).I.length = E.conf := by
  unfold EnS.ql EnS.qr EnS.conf
  split <;> refine ⟨?_, ?_, ?_⟩ <;> omega
set_option maxRecDepth 100000 in
theorem EnAt.lo {W : World} {lo : Nat} {c : EnC} {F0 F1 FS : Nat → Prop} {E : EnS} (h : EnAt W lo c F0 F1 FS E) : lo ≤ W.heap.size := Nat.le_of_lt (Nat.lt_of_le_of_lt h.lx h.b.lt)
section
variable {w : World} {lo : Nat} {c : EnC} {F0 F1 FS : Nat → Prop} {E : EnS} {f : Nat}
set_option maxRecDepth 100000 in
set_option maxHeartbeats 2000000 in
theorem e_conf (h : EnAt w lo c F0 F1 FS E) (hs : EnSm c E f) : Calls Try.prog 11 #[.pointer (some ⟨c.x, 0, none⟩)] w (DrawPost w (.int .i64 (E.conf : Nat))) := by
  have hlr := E.qlr c
  have hb : max E.Q0.I.length E.Q1.I.length ≤ 10000 := by have := hs.i0; have := hs.i1; omega
  have k1 := Lib.hid (fun q => e_local (h.drewN q).b hs.loc)
  have k2 := Lib.hid (fun q => by
    obtain ⟨G, hG, _⟩ := (h.drewN q).to.ql
    exact q_next hG (by omega))
  have k3 := Lib.hid (fun q => e_remote (h.drewN q).b hs.loc)
  have k4 := Lib.hid (fun q => by
    obtain ⟨G, hG, _⟩ := (h.drewN q).to.qr
    exact q_next hG (by omega))
  obtain ⟨m, hm⟩ : ∃ m : Nat, E.conf = m := ⟨_, rfl⟩
  have hmin : Hid (min (E.ql c).I.length (E.qr c).I.length = m) := hide (by omega)
  have g1 := k1.out 0
  have g2 := Lib.hid (fun q => k2.out q)
  rw [hm]
  generalize (E.ql c).I.length = a at *
  generalize (E.qr c).I.length = b at *
  generalize c.pl = pl at *
  generalize c.pr = pr at *
  generalize c.x = x at *
  clear h hs hlr hb hm g1 g2
  go_enter Try.func11, Try.ntmps11
  go_wp2_with fail
  refine (k1.out 0).mono ?_
  rintro e w1 ⟨rfl, q1, rfl⟩
  rw [World.drewN_drewN]
  generalize 0 + q1 = q1 at *
  go_wp2_with fail
  refine (k2.out q1).mono ?_
  rintro e w1 ⟨rfl, q2, rfl⟩
  rw [World.drewN_drewN]
  generalize q1 + q2 = q2 at *
  go_wp2_with fail
  refine (k3.out q2).mono ?_
  rintro e w1 ⟨rfl, q3, rfl⟩
  rw [World.drewN_drewN]
  generalize q2 + q3 = q3 at *
  go_wp2_with fail
  refine (k4.out q3).mono ?_
  rintro e w1 ⟨rfl, q4, rfl⟩
  rw [World.drewN_drewN]
  generalize q3 + q4 = q4 at *
  go_wp2_with fail
  all_goals
    go_ret
    refine ⟨?_, q4, rfl⟩
    have := hmin.out
    first
      | (have e : b = m := by omega
         subst e
         rfl)
      | (have e : a = m := by omega
         subst e
         rfl)
set_option maxRecDepth 100000 in
set_option maxHeartbeats 2000000 in
theorem e_may (h : EnAt w lo c F0 F1 FS E) (hs : EnSm c E f) (_hah : c.ah ≤ 100) : Calls Try.prog 34 #[.pointer (some ⟨c.x, 0, none⟩)] w (DrawPost w (.int .i64 (if E.conf + c.ah ≤ f then 250 else 0))) := by
  have k1 := Lib.hid (fun q => e_frame (h.drewN q).b)
  have k2 := Lib.hid (fun q => e_conf (h.drewN q) hs)
  have c3 := h.b.ah
  have hcb : E.conf ≤ 10000 := by have := hs.i0; unfold EnS.conf; omega
  have hf := hs.f
  rw [hs.fr] at k1
  generalize E.conf = m at *
  generalize c.x = x at *
  generalize c.ah = ah at *
  have hw : IntKind.i64.wrap ((f : Int) - (m : Int)) = (f : Int) - (m : Int) := IntWalk.i64_in _ (by omega)
  by_cases hm : m + ah ≤ f
  · rw [if_pos hm]
    have d1 : decide ((ah : Int) ≤ (f : Int) - (m : Int)) = true := decide_eq_true (by omega)
    clear h hs hcb hf _hah hm
    go_enter Try.func34, Try.ntmps34
    go_upto_region 1 with (fail)
    go_quiet (first | (go_at_call 10; exact Calls.quiet_of_same ((k1.out _).mono fun _ _ hx => ⟨hx.1, hx.2.symm⟩)) | (go_at_call 11; exact Calls.quiet_of (k2.out _)))
    go_wp2_with fail
    go_ret
    exact ⟨rfl, _, rfl⟩
  · rw [if_neg hm]
    have d1 : decide ((ah : Int) ≤ (f : Int) - (m : Int)) = false := decide_eq_false (by omega)
    clear h hs hcb hf _hah hm
    go_enter Try.func34, Try.ntmps34
    go_upto_region 1 with (fail)
    go_quiet (first | (go_at_call 10; exact Calls.quiet_of_same ((k1.out _).mono fun _ _ hx => ⟨hx.1, hx.2.symm⟩)) | (go_at_call 11; exact Calls.quiet_of (k2.out _)))
    go_wp2_with fail
    go_ret
    exact ⟨rfl, _, rfl⟩
/-- an input of the peer: too early, or taken -/
def AddEnd (w : World) (lo : Nat) (c : EnC) (F : Nat → Prop) (E E2 : EnS) (f n : Nat) (e : Ending) (w' : World) : Prop :=
  if f + 128 ≤ n then e = .returned (.tuple #[.int .i64 0, .int .i64 2]) ∧ EnTo w lo c F E w' else e = .returned (.tuple #[.int .i64 (n : Nat), .int .i64 0]) ∧ EnTo w lo c F E2 w'
/-- a player, behind an input more -/
def PlS.add (Q : PlS) (x : Int) : PlS := ⟨Q.I ++ [x], Q.A, Q.kf, Q.uf, addW Q.wr Q.A Q.I.length x⟩
set_option maxRecDepth 100000 in
set_option maxHeartbeats 2000000 in
theorem e_addRemote (h : EnAt w lo c F0 F1 FS E) (hs : EnSm c E f) (x : Int) (hi : (E.qr c).I.length < 256) (hA : (E.qr c).A.length ≤ 10000) (hu : (E.qr c).uf ≤ (E.qr c).I.length) :
    Calls Try.prog 7 #[.pointer (some ⟨c.x, 0, none⟩), .int .u16 x] w (AddEnd w lo c (enFoot c F0 F1 FS) E (E.setR c ((E.qr c).add x)) f (E.qr c).I.length) := by
  have k1 := Lib.hid (fun q => e_remote (h.drewN q).b hs.loc)
  have k2 := Lib.hid (fun q => by
    obtain ⟨G, hG, _⟩ := (h.drewN q).to.qr
    exact q_next hG (by omega))
  have k3 := Lib.hid (fun q => e_frame (h.drewN q).b)
  rw [hs.fr] at k3
  have k4 : Hid (∀ q, Calls Try.prog 33 #[.pointer (some ⟨c.pr, 0, none⟩), .int .u16 x] (w.drewN q) (fun e w' => e = .returned (.int .i64 ((E.qr c).I.length : Nat)) ∧ EnTo w lo c (enFoot c F0 F1 FS) (E.setR c ((E.qr c).add x)) w')) := hide (fun q => by
    obtain ⟨G, hG, hto⟩ := (h.to.drewN q).qr
    exact (q_add hG x (h.drewN q).lo hi hA hu).mono (fun e w' hx => ⟨hx.1, hto _ _ _ _ _ _ hx.2⟩))
  have hno := Lib.hid (fun q => h.to.drewN q)
  have hf := hs.f
  generalize E.setR c ((E.qr c).add x) = E2 at *
  generalize (E.qr c).I.length = n at *
  generalize enFoot c F0 F1 FS = F at *
  generalize c.pr = pr at *
  have hw : IntKind.i64.wrap ((n : Int) - (f : Int)) = (n : Int) - (f : Int) := IntWalk.i64_in _ (by omega)
  obtain ⟨y, hy⟩ : ∃ y, c.x = y := ⟨_, rfl⟩
  rw [hy] at k1 k3 ⊢
  by_cases hm : f + 128 ≤ n
  · have d1 : decide ((128 : Int) ≤ (n : Int) - (f : Int)) = true := decide_eq_true (by omega)
    have hend : Hid (∀ q, AddEnd w lo c F E E2 f n (.returned (.tuple #[.int .i64 0, .int .i64 2])) (w.drewN q)) := hide (fun q => by unfold AddEnd; rw [if_pos hm]; exact ⟨rfl, hno.out q⟩)
    clear h hs hi hA hu hno hf hm k4 hy
    go_enter Try.func7, Try.ntmps7
    go_wp2_with fail
    refine (k1.out 0).mono ?_
    rintro e w1 ⟨rfl, q1, rfl⟩
    rw [World.drewN_drewN]
    generalize 0 + q1 = q1 at *
    go_wp2_with fail
    refine (k2.out q1).mono ?_
    rintro e w1 ⟨rfl, q2, rfl⟩
    rw [World.drewN_drewN]
    generalize q1 + q2 = q2 at *
    go_wp2_with fail
    refine (k3.out q2).mono ?_
    rintro e w1 ⟨rfl, rfl⟩
    go_wp2_with fail
    go_ret2
    exact hend.out _
  · have d1 : decide ((128 : Int) ≤ (n : Int) - (f : Int)) = false := decide_eq_false (by omega)
    have hend : Hid (∀ w', EnTo w lo c F E2 w' → AddEnd w lo c F E E2 f n (.returned (.tuple #[.int .i64 (n : Nat), .int .i64 0])) w') := hide (fun w' hE => by unfold AddEnd; rw [if_neg hm]; exact ⟨rfl, hE⟩)
    clear h hs hi hA hu hno hf hm hy
    go_enter Try.func7, Try.ntmps7
    go_wp2_with fail
    refine (k1.out 0).mono ?_
    rintro e w1 ⟨rfl, q1, rfl⟩
    rw [World.drewN_drewN]
    generalize 0 + q1 = q1 at *
    go_wp2_with fail
    refine (k2.out q1).mono ?_
    rintro e w1 ⟨rfl, q2, rfl⟩
    rw [World.drewN_drewN]
    generalize q1 + q2 = q2 at *
    go_wp2_with fail
    refine (k3.out q2).mono ?_
    rintro e w1 ⟨rfl, rfl⟩
    go_wp2_with fail
    refine (k1.out q2).mono ?_
    rintro e w1 ⟨rfl, q3, rfl⟩
    rw [World.drewN_drewN]
    generalize q2 + q3 = q3 at *
    go_wp2_with fail
    refine (k4.out q3).mono ?_
    rintro e w1 ⟨rfl, hE⟩
    have hEh := Lib.hid (hend.out _ hE)
    clear hE hend
    go_wp2_with fail
    go_ret2
    exact hEh.out
end
end Go.Proofs.Ytmfagdbocidfjaa

/- An engine: up to which frame it is sure. Conditions: what it holds. -/
namespace Go.Proofs.Ytmfagdbocidfjaa
open Go.RowKit
set_option maxRecDepth 100000 in
theorem ix_qs0 (x i : Value) : Instr.index 83 x i = wIndex 83 x i := rfl
set_option maxRecDepth 100000 in
theorem ix_qs_0 (p q : Nat) (w : World) : (wIndex 83 (.agg #[.pointer (some ⟨p, 0, none⟩), .pointer (some ⟨q, 0, none⟩)]) (.int .i64 0)).run Try.prog w = .ok (.pointer (some ⟨p, 0, none⟩)) w := by kernel_rfl
set_option maxRecDepth 100000 in
theorem ix_qs_1 (p q : Nat) (w : World) : (wIndex 83 (.agg #[.pointer (some ⟨p, 0, none⟩), .pointer (some ⟨q, 0, none⟩)]) (.int .i64 1)).run Try.prog w = .ok (.pointer (some ⟨q, 0, none⟩)) w := by kernel_rfl
attribute [local irreducible] wIndex
attribute [local go_sem ↓] ix_qs0
attribute [local go_sem] ix_qs_0 ix_qs_1
section
variable {w : World} {lo : Nat} {c : EnC} {F0 F1 FS : Nat → Prop} {E : EnS} {f : Nat}
set_option maxRecDepth 100000 in
set_option maxHeartbeats 2000000 in
theorem e_sure (h : EnAt w lo c F0 F1 FS E) (hs : EnSm c E f) (h0 : E.Q0.wr = -1) (h1 : E.Q1.wr = -1) : Calls Try.prog 16 #[.pointer (some ⟨c.x, 0, none⟩)] w (DrawPost w (.int .i64 ((min E.conf f : Nat) : Int))) := by
  have k1 := Lib.hid (fun q => e_conf (h.drewN q) hs)
  have k2 := Lib.hid (fun q => e_frame (h.drewN q).b)
  rw [hs.fr] at k2
  have k3 := Lib.hid (fun q => q_wrong (h.drewN q).q0)
  have k4 := Lib.hid (fun q => q_wrong (h.drewN q).q1)
  rw [h0] at k3
  rw [h1] at k4
  have hc4 := Lib.hid (fun q => (h.drewN q).b.p0)
  have hc5 := Lib.hid (fun q => (h.drewN q).b.p1)
  obtain ⟨n, hn⟩ : ∃ n : Nat, min E.conf f = n := ⟨_, rfl⟩
  have hnh := Lib.hid hn
  rw [hn]
  generalize E.conf = m at *
  generalize c.x = x at *
  generalize c.p0 = p0 at *
  generalize c.p1 = p1 at *
  clear h hs h0 h1 hn
  go_enter Try.func16, Try.ntmps16
  go_upto_region 1 with (fail)
  go_cut [3] (fun v3 wx => v3 = .int .i64 (n : Nat) ∧ ∃ q, wx = w.drewN q)
  case first =>
    go_wp2_with fail
    refine (k1.out 0).mono ?_
    rintro e w1 ⟨rfl, q1, rfl⟩
    rw [World.drewN_drewN]
    generalize 0 + q1 = q1 at *
    go_wp2_with fail
    refine (k2.out q1).mono ?_
    rintro e w1 ⟨rfl, rfl⟩
    go_wp2_with fail
    all_goals
      go_meet
      have := hnh.out
      refine ⟨?_, q1, rfl⟩
      congr 1
      omega
  case rest =>
    obtain ⟨rfl, q, rfl⟩ := hcut
    have c4 := hc4.out q
    have c5 := hc5.out q
    go_upto_region 3 with (fail)
    clear c4 c5
    go_loopw [3, 16] (fun v3 v16 wr => (v16 = .int .i64 0 ∨ v16 = .int .i64 1 ∨ v16 = .int .i64 2) ∧ v3 = .int .i64 (n : Nat) ∧ ∃ q, wr = w.drewN q) (fun _ v16 _ => 2 - (intOf v16).toNat)
    case atStart => exact ⟨.inl rfl, rfl, q, rfl⟩
    case round =>
      obtain ⟨hi, rfl, q, rfl⟩ := hrel
      rcases hi with rfl | rfl | rfl
      · go_wp2_with fail
        refine (k3.out q).mono ?_
        rintro e w1 ⟨rfl, rfl⟩
        go_wp2_with fail
        refine ⟨?_, ?_⟩
        rotate_left
        · simp [intOf]
        first
          | exact ⟨.inr (.inl rfl), rfl, q, rfl⟩
          | (repeat (apply Exists.intro)
             exact ⟨⟨.inr (.inl rfl), rfl, q, rfl⟩, rfl⟩)
      · go_wp2_with fail
        refine (k4.out q).mono ?_
        rintro e w1 ⟨rfl, rfl⟩
        go_wp2_with fail
        refine ⟨?_, ?_⟩
        rotate_left
        · simp [intOf]
        first
          | exact ⟨.inr (.inr rfl), rfl, q, rfl⟩
          | (repeat (apply Exists.intro)
             exact ⟨⟨.inr (.inr rfl), rfl, q, rfl⟩, rfl⟩)
      · go_wp2_with fail
        go_ret
        exact ⟨rfl, q, rfl⟩
end
end Go.Proofs.Ytmfagdbocidfjaa

/- An engine: a frame more. Conditions: what it holds. -/
namespace Go.Proofs.Ytmfagdbocidfjaa
open Go.RowKit
/-- a player, behind a use -/
def PlS.use (Q : PlS) (f : Nat) : PlS := ⟨Q.I, useL Q.A f (inAt Q.I f), Q.kf, Q.uf, Q.wr⟩
/-- a frame more -/
def EnS.step (E : EnS) (f : Nat) (hh : Int) : EnS :=
  { Q0 := E.Q0.use f, Q1 := E.Q1.use f, sf := (saveF E.sf E.L (stepF (inAt E.Q0.I f) (inAt E.Q1.I f) E.S) hh (f + 1)).1, L := (saveF E.sf E.L (stepF (inAt E.Q0.I f) (inAt E.Q1.I f) E.S) hh (f + 1)).2,
    S := stepF (inAt E.Q0.I f) (inAt E.Q1.I f) E.S, wo := E.wo }
structure PlOk (Q : PlS) (f : Nat) : Prop where
  i : Q.I.length ≤ 10000
  a : Q.A.length < 256
  k : Q.kf ≤ f
  u : Q.uf ≤ f
  f : f ≤ Q.A.length
structure StOk (E : EnS) (f : Nat) : Prop where
  fr : E.S 0 = (f : Nat)
  q0 : PlOk E.Q0 f
  q1 : PlOk E.Q1 f
  sf : E.sf ≤ f
  le : f + 1 ≤ E.sf + E.L.length
  l : E.L.length ≤ 64
  lb : E.sf + E.L.length ≤ 9000
  ok : GOk E.S
set_option maxRecDepth 100000 in
theorem EnAt.not {W : World} {lo : Nat} {c : EnC} {F0 F1 FS : Nat → Prop} {E : EnS} (h : EnAt W lo c F0 F1 FS E) {b : Nat} {C : Array Value} {T : TypeId} (hb : W.heap[b]? = some (.cells C T (0, 0)))
    (h1 : T ≠ 145) (h2 : T ≠ 177) (h3 : T ≠ 34) (h4 : T ≠ 152) (h5 : T ≠ 180) (h6 : T ≠ 150) (h7 : T ≠ 86) : ¬ enFoot c F0 F1 FS b := by
  rintro (e | e | e | e)
  · obtain ⟨r1, r2, hx⟩ := h.b
    exact bty_ne hb hx h7 e
  · exact h.q0.not hb h1 h2 h3 e
  · exact h.q1.not hb h1 h2 h3 e
  · exact h.sv.not hb h4 h5 h6 e
set_option maxRecDepth 100000 in
/-- a block that is no part of it has turned -/
theorem EnTo.off {W W1 W2 : World} {lo : Nat} {c : EnC} {F : Nat → Prop} {E : EnS} (h : EnTo W lo c F E W1) {g : Nat} (hT : Touch W1 W2 (fun b => b = g)) {C : Array Value} {T : TypeId} (hb : W1.heap[g]? = some (.cells C T (0, 0)))
    (h1 : T ≠ 145) (h2 : T ≠ 177) (h3 : T ≠ 34) (h4 : T ≠ 152) (h5 : T ≠ 180) (h6 : T ≠ 150) (h7 : T ≠ 86) (hg : W.heap.size ≤ g) : EnTo W lo c F E W2 := by
  obtain ⟨F0, F1, FS, hA, hT1, hs⟩ := h
  exact ⟨F0, F1, FS, hA.keep (fun b hb2 => hT.block b (hA.lt b hb2) (fun e => hA.not hb h1 h2 h3 h4 h5 h6 h7 (e ▸ hb2))), hT1.trans (hT.mono (fun b _ e => .inr (e ▸ hg))), hs⟩
attribute [local irreducible] stA enA
set_option maxRecDepth 100000 in
/-- the state is turned -/
theorem EnB.put {W : World} {c : EnC} {S S' : Nat → Int} {wo : Int} (h : EnB W c S wo) : W.there c.x 7 (stA S').size ∧ EnB (W.setCells c.x 7 (stA S').toList) c S' wo ∧ Touch W (W.setCells c.x 7 (stA S').toList) (fun b => b = c.x) := by
  obtain ⟨r1, r2, h⟩ := h
  have hl : (stA S').toList.length = 66 := by rw [Array.length_toList, stA_size]
  obtain ⟨C', g1, g2, g3, g4, g5⟩ := setCells_blk c.x _ (stA S').toList 7 W _ h
  refine ⟨fun j hj => ⟨?_, frozen_of_row W c.x _ _ _ h⟩, ⟨r1, r2, ?_⟩, Touch.grown g5 (fun b hb => (Option.some.inj hb).symm)⟩
  · rw [stA_size] at hj
    rw [cell_of_block h, enA_st c S r1 r2 wo hj]
    rfl
  · rw [g1]
    suffices hC : C' = enA c S' r1 r2 wo by rw [hC]
    apply Array.ext_getElem?
    intro i
    rw [enA_size] at g2
    rcases Nat.lt_or_ge i 7 with hi | hi
    · rw [g3 i (.inl hi), enA_lo c S r1 r2 wo hi, enA_lo c S' r1 r2 wo hi]
    · rcases Nat.lt_or_ge i 73 with hi2 | hi2
      · obtain ⟨o, rfl⟩ : ∃ o, i = 7 + o := ⟨i - 7, by omega⟩
        rw [g4 o (by omega) (by rw [enA_size]; omega), enA_st c S' r1 r2 wo (by omega), Array.getElem?_toList, stA_get S' (by omega)]
      · obtain ⟨o, rfl⟩ : ∃ o, i = 73 + o := ⟨i - 73, by omega⟩
        rw [g3 _ (.inr (by omega)), enA_hi, enA_hi]
set_option maxRecDepth 100000 in
theorem in_info : (Try.prog.info? 52).map (·.size) = some 2 := by kernel_rfl
end Go.Proofs.Ytmfagdbocidfjaa

/- A step leads to the next frame. Lemmas alone. -/
namespace Go.Proofs.Ytmfagdbocidfjaa
open Go.RowKit
set_option maxRecDepth 100000 in
theorem set_fr {S : Nat → Int} {o : Nat} {v : Int} (h : o ≠ 0) : setS S o v 0 = S 0 := setS_ne _ _ (Ne.symm h)
set_option maxRecDepth 100000 in
theorem walk_fr (q : Nat) (x : Int) (S : Nat → Int) : walkF q x S 0 = S 0 := by
  unfold walkF; split
  · exact set_fr (by omega)
  · rw [set_fr (by omega), set_fr (by omega)]
set_option maxRecDepth 100000 in
theorem fall_fr {q : Nat} (x : Int) (S : Nat → Int) : fallF q x S 0 = S 0 := by
  have h1 : fall1 q x S 0 = S 0 := by unfold fall1; split; exact set_fr (by omega); rfl
  have h2 : ∀ T : Nat → Int, fall2 q T 0 = T 0 := fun T => by unfold fall2; split; exact set_fr (by omega); rfl
  have h3 : ∀ T : Nat → Int, fall3 q T 0 = T 0 := fun T => set_fr (by omega)
  have h4 : ∀ T : Nat → Int, fall4 q T 0 = T 0 := fun T => by
    unfold fall4; split
    · rw [set_fr (by omega), set_fr (by omega)]
    · rfl
  unfold fallF
  rw [h4, h3, h2, h1]
set_option maxRecDepth 100000 in
theorem slide_fr {q : Nat} (hq : q ≠ 0) (S : Nat → Int) : slideF q S 0 = S 0 := by
  have h1 : slide1 q S 0 = S 0 := set_fr hq
  unfold slideF; split
  · rw [set_fr (by omega), h1]
  · exact h1
set_option maxRecDepth 100000 in
theorem shot_fr (S : Nat → Int) (k : Nat) (on : Bool) (a b c d e : Int) : setShot S k on a b c d e 0 = S 0 := by
  unfold setShot
  rw [set_fr (by omega), set_fr (by omega), set_fr (by omega), set_fr (by omega), set_fr (by omega), set_fr (by omega)]
set_option maxRecDepth 100000 in
theorem bodyset_fr (S : Nat → Int) (i : Nat) (a b c d e f h : Int) : setBody S i a b c d e f h 0 = S 0 := by
  unfold setBody
  rw [set_fr (by omega), set_fr (by omega), set_fr (by omega), set_fr (by omega), set_fr (by omega), set_fr (by omega), set_fr (by omega)]
set_option maxRecDepth 100000 in
theorem fire_fr (i : Nat) (x : Int) (S : Nat → Int) : fireF i x S 0 = S 0 := by
  unfold fireF; split
  · exact set_fr (by omega)
  · split
    · rfl
    · cases firstFree S with
      | none => rfl
      | some k =>
        show fireSet i S k 0 = S 0
        unfold fireSet; rw [set_fr (by omega), shot_fr]
set_option maxRecDepth 100000 in
theorem hurt_fr (i : Nat) (x : Int) (S : Nat → Int) : hurtF i x S 0 = S 0 := by
  have h1 : hurt1 i x S 0 = S 0 := set_fr (by omega)
  unfold hurtF; split
  · exact h1
  · unfold hurt3; rw [bodyset_fr]; unfold hurt2; rw [set_fr (by omega), h1]
set_option maxRecDepth 100000 in
theorem fly_fr (k : Nat) (a b : Int) (S : Nat → Int) : flyF k a b S 0 = S 0 := by
  have h1 : fly2 k (fly1 k S) 0 = S 0 := by unfold fly2; rw [set_fr (by omega)]; exact set_fr (by omega)
  unfold flyF fly3; split
  · unfold gone; rw [shot_fr, h1]
  · split
    · rw [hurt_fr]; unfold gone; rw [shot_fr, h1]
    · exact h1
set_option maxRecDepth 100000 in
theorem bodies_fr (a b : Int) (S : Nat → Int) : ∀ n, bodiesF a b n S 0 = S 0
  | 0 => rfl
  | n + 1 => by
    show bodyStep n (inZ a b n) (bodiesF a b n S) 0 = S 0
    unfold bodyStep
    rw [fire_fr, slide_fr (by omega), fall_fr, walk_fr, bodies_fr a b S n]
set_option maxRecDepth 100000 in
theorem shots_fr (a b : Int) (S : Nat → Int) : ∀ n, shotsF a b n S 0 = S 0
  | 0 => rfl
  | n + 1 => by
    show shotStep n a b (shotsF a b n S) 0 = S 0
    unfold shotStep; split
    · rw [fly_fr, shots_fr a b S n]
    · exact shots_fr a b S n
set_option maxRecDepth 100000 in
theorem step_frame (a b : Int) (S : Nat → Int) : stepF a b S 0 = wrap64 (S 0 + 1) := by
  unfold stepF
  rw [shots_fr, bodies_fr]
  unfold step0
  rw [set_fr (by omega), setS_same]
end Go.Proofs.Ytmfagdbocidfjaa
