import Derived.Test.YtmfagdbocidfjaaU26
/- A new engine. Conditions: none but its numbers. -/
namespace Go.Proofs.Ytmfagdbocidfjaa
open Go.RowKit
/-- an engine's cells, its pointers whatever they are -/
def enP (seed loc del ah : Int) (a b d : Value) (S : Nat → Int) : Array Value :=
  #[.int .u32 seed, .int .i64 loc, .int .i64 del, .int .i64 ah, a, b, d] ++ stA S ++ #[.int .i64 0, .int .i64 0, .int .i64 0]
set_option maxRecDepth 100000 in
theorem enP_size (seed loc del ah : Int) (a b d : Value) (S : Nat → Int) : (enP seed loc del ah a b d S).size = 76 := by unfold enP; rw [Array.size_append, Array.size_append, stA_size]; rfl
set_option maxRecDepth 100000 in
theorem enP_lo (seed loc del ah : Int) (a b d : Value) (S : Nat → Int) {i : Nat} (h : i < 7) : (enP seed loc del ah a b d S)[i]? = #[.int .u32 seed, .int .i64 loc, .int .i64 del, .int .i64 ah, a, b, d][i]? := by
  unfold enP
  rw [Array.getElem?_append_left (by rw [Array.size_append, stA_size]; show i < 7 + 66; omega), Array.getElem?_append_left (by show i < 7; omega)]
set_option maxRecDepth 100000 in
theorem enP_st (seed loc del ah : Int) (a b d : Value) (S : Nat → Int) {o : Nat} (h : o < 66) : (enP seed loc del ah a b d S)[7 + o]? = some (cvS o (S o)) := by
  unfold enP
  rw [Array.getElem?_append_left (by rw [Array.size_append, stA_size]; show 7 + o < 7 + 66; omega), Array.getElem?_append_right (by show 7 ≤ 7 + o; omega)]
  show (stA S)[7 + o - 7]? = _
  rw [Nat.add_sub_cancel_left, stA_get S h]
set_option maxRecDepth 100000 in
theorem enP_end (seed loc del ah : Int) (a b d : Value) (S : Nat → Int) {i : Nat} : (enP seed loc del ah a b d S)[73 + i]? = #[.int .i64 0, .int .i64 0, .int .i64 0][i]? := by
  unfold enP
  rw [Array.getElem?_append_right (by rw [Array.size_append, stA_size]; show 7 + 66 ≤ 73 + i; omega)]
  rw [Array.size_append, stA_size]
  show _[73 + i - 73]? = _
  rw [Nat.add_sub_cancel_left]
set_option maxRecDepth 100000 in
theorem enP_hi (seed loc del ah : Int) (a b d a' b' d' : Value) (S : Nat → Int) {i : Nat} (h : 7 ≤ i) : (enP seed loc del ah a b d S)[i]? = (enP seed loc del ah a' b' d' S)[i]? := by
  rcases Nat.lt_or_ge i 73 with hi | hi
  · obtain ⟨o, rfl⟩ : ∃ o, i = 7 + o := ⟨i - 7, by omega⟩
    rw [enP_st _ _ _ _ _ _ _ _ (by omega), enP_st _ _ _ _ _ _ _ _ (by omega)]
  · obtain ⟨o, rfl⟩ : ∃ o, i = 73 + o := ⟨i - 73, by omega⟩
    rw [enP_end, enP_end]
set_option maxRecDepth 100000 in
theorem enP_set (seed loc del ah : Int) (a b d a' b' d' : Value) (S : Nat → Int) {k : Nat} {x : Value} (hk : k < 7) (h : #[.int .u32 seed, .int .i64 loc, .int .i64 del, .int .i64 ah, a', b', d'] = (#[.int .u32 seed, .int .i64 loc, .int .i64 del, .int .i64 ah, a, b, d] : Array Value).setIfInBounds k x) :
    (enP seed loc del ah a b d S).setIfInBounds k x = enP seed loc del ah a' b' d' S := by
  apply Array.ext_getElem?
  intro i
  rcases Nat.lt_or_ge i 7 with hi | hi
  · rw [enP_lo _ _ _ _ _ _ _ _ hi, h, Array.getElem?_setIfInBounds, Array.getElem?_setIfInBounds, enP_size, enP_lo _ _ _ _ _ _ _ _ hi]
    by_cases e : k = i
    · rw [if_pos e, if_pos e, if_pos (by omega), if_pos (by show k < 7; omega)]
    · rw [if_neg e, if_neg e]
  · rw [Array.getElem?_setIfInBounds, if_neg (by omega)]
    exact enP_hi _ _ _ _ _ _ _ _ _ _ _ hi
def nBuild (parts : Array (Nat × Value)) : Sem Value := Instr.build 86 parts
set_option maxRecDepth 100000 in
theorem nBuild_of (parts : Array (Nat × Value)) : Instr.build 86 parts = nBuild parts := by unfold nBuild; rfl
set_option maxRecDepth 100000 in
set_option maxHeartbeats 2000000 in
theorem nBuild_2 (seed loc del ah : Int) (S : Nat → Int) (w : World) : (nBuild #[(0, .agg #[.int .u32 seed, .int .i64 loc, .int .i64 del, .int .i64 ah]), (3, .agg (stA S))]).run Try.prog w = .ok (.agg (enP seed loc del ah (.pointer none) (.pointer none) (.pointer none) S)) w := by kernel_rfl
set_option maxRecDepth 100000 in
theorem enP_enA (c : EnC) (S : Nat → Int) : enA c S 0 0 0 = enP c.seed (c.loc : Nat) (c.del : Nat) (c.ah : Nat) (.pointer (some ⟨c.p0, 0, none⟩)) (.pointer (some ⟨c.p1, 0, none⟩)) (.pointer (some ⟨c.ps, 0, none⟩)) S := rfl
/-- what a new engine holds -/
def newP (d : Nat) : PlS := ⟨List.replicate d 0, [], 0, 0, -1⟩
def newE (d : Nat) (S : Nat → Int) (hh : Int) : EnS := { Q0 := newP d, Q1 := newP d, sf := 0, L := [(S, hh)], S := S, wo := 0 }
set_option maxRecDepth 100000 in
theorem rep_last : ∀ d : Nat, (List.replicate d (0 : Int)).getLastD 0 = 0
  | 0 => rfl
  | d + 1 => by rw [List.replicate_succ']; simp
set_option maxRecDepth 100000 in
theorem newQ_is {w w' : World} {d : Nat} {e : Ending} (h : NewQPost w d e w') : ∃ p G, e = .returned (.tuple #[.pointer (some ⟨p, 0, none⟩), .int .i64 0]) ∧ QuIs w' w.heap.size p G (newP d).I (newP d).A (newP d).kf (newP d).uf (newP d).wr ∧ Below w.heap.size w w' := by
  obtain ⟨p, kr, ur, kv, uv, h1, h2, h3⟩ := h
  exact ⟨p, _, h1, ⟨kr, ur, kv, uv, _, h2, ⟨rfl, Nat.zero_le _, (rep_last d).symm, rfl, Nat.le_refl _⟩, rfl, rfl, rfl, fun _ => Iff.rfl⟩, h3⟩
set_option maxRecDepth 100000 in
theorem QuIs.base {W : World} {lo lo' p kf uf : Nat} {F : Nat → Prop} {I A : List Int} {wr : Int} (h : QuIs W lo p F I A kf uf wr) (hl : lo' ≤ lo) : QuIs W lo' p F I A kf uf wr := by
  obtain ⟨kr, ur, kv, uv, s, h1, h2⟩ := h
  exact ⟨kr, ur, kv, uv, s, h1.base hl, h2⟩
set_option maxRecDepth 100000 in
theorem QuIs.below {W W' : World} {lo p kf uf : Nat} {F : Nat → Prop} {I A : List Int} {wr : Int} (h : QuIs W lo p F I A kf uf wr) (hB : Below W.heap.size W W') : QuIs W' lo p F I A kf uf wr := h.keep fun b hb => hB.block b (h.lt b hb)
set_option maxRecDepth 100000 in
theorem SvAt.base {W : World} {lo lo' p r first : Nat} {v : Value} {L : List ((Nat → Int) × Int)} (h : SvAt W lo p r first v L) (hl : lo' ≤ lo) : SvAt W lo' p r first v L := ⟨h.blk, ⟨h.ring.blk, h.ring.row.base hl, Nat.le_trans hl h.ring.lr⟩, Nat.le_trans hl h.lp⟩
set_option maxRecDepth 100000 in
theorem newSv_is {w w' : World} {e : Ending} (h : NewSvPost w e w') : ∃ p G, e = .returned (.tuple #[.pointer (some ⟨p, 0, none⟩), .int .i64 0]) ∧ SvIs w' w.heap.size p G 0 [] ∧ Below w.heap.size w w' := by
  obtain ⟨p, r, v, h1, h2, h3⟩ := h
  exact ⟨p, _, h1, ⟨r, v, h2, fun _ => Iff.rfl⟩, h3⟩
set_option maxRecDepth 100000 in
theorem SvIs.base {W : World} {lo lo' p first : Nat} {F : Nat → Prop} {L : List ((Nat → Int) × Int)} (h : SvIs W lo p F first L) (hl : lo' ≤ lo) : SvIs W lo' p F first L := by
  obtain ⟨r, v, h1, h2⟩ := h
  exact ⟨r, v, h1.base hl, h2⟩
set_option maxRecDepth 100000 in
theorem Touch.one {W W1 W2 : World} {B g : Nat} (hB : Below B W W1) (h : Touch W1 W2 (fun b => b = g)) (hg : B ≤ g) (hs : B ≤ W1.heap.size) : Below B W W2 := hB.trans (h.toBelow hs (fun _ e => e ▸ hg))
def NewEPost (w : World) (seed : Int) (loc del ah : Nat) (e : Ending) (w' : World) : Prop :=
  ∃ c F0 F1 FS hh, c.loc = loc ∧ c.del = del ∧ c.ah = ah ∧ e = .returned (.tuple #[.pointer (some ⟨c.x, 0, none⟩), .int .i64 0]) ∧ EnAt w' w.heap.size c F0 F1 FS (newE del (newF seed) hh) ∧ Below w.heap.size w w'
end Go.Proofs.Ytmfagdbocidfjaa

/- An engine at rest: behind a frame more, behind an input of the peer; a new one; what it has played. Plain. -/
namespace Go.Proofs.Ytmfagdbocidfjaa
open Go.RowKit
set_option maxRecDepth 100000 in
theorem drop_bd (kf n : Nat) (b : Int) : kf + dropK kf n b ≤ max kf b.toNat := by
  unfold dropK
  split <;> omega
set_option maxRecDepth 100000 in
theorem b_sub (f : Nat) : f - 64 ≤ f + 1 - 64 := by omega
set_option maxRecDepth 100000 in
theorem b_max (f : Nat) : max f (f + 1) = f + 1 := by omega
set_option maxRecDepth 100000 in
theorem b_sf (a f : Nat) (h : a ≤ f - 63) : max a (f + 1 - 63) ≤ f + 1 - 63 := by omega
set_option maxRecDepth 100000 in
theorem b_lt (f a b j : Nat) (h1 : a + b = f + 1 + 1) (h2 : j < b) : a + j ≤ f + 1 := by omega
set_option maxRecDepth 100000 in
theorem drop_le (kf n : Nat) (b : Int) (B : Nat) (h1 : kf ≤ B) (h2 : b ≤ (B : Int)) : kf + dropK kf n b ≤ B := by
  have := drop_bd kf n b
  omega
set_option maxRecDepth 100000 in
theorem EnS.below_le (E : EnS) (g : Nat) : E.below g ≤ ((g - 64 : Nat) : Int) := by unfold EnS.below; omega
set_option maxRecDepth 100000 in
theorem Agree.add {Q : PlS} {f : Nat} (h : Agree Q f) (hf : f ≤ Q.I.length) (x : Int) : Agree (Q.add x) f := by
  intro m hm _
  show Q.A[m]? = (Q.I ++ [x])[m]?
  rw [List.getElem?_append_left (by omega)]
  exact h m hm (by omega)
set_option maxRecDepth 100000 in
theorem Rest.new {c : EnC} {d ah : Nat} {S0 : Nat → Int} (hc : c.loc < 2) (hd : c.del = d) (hd8 : d ≤ 8) (ha : c.ah = ah) (ha1 : 1 ≤ ah ∧ ah ≤ 16) (ok : GOk S0) (fr : S0 0 = 0) (hh : Int) : Rest c S0 (newE d S0 hh) 0 := by
  have hq : (newE d S0 hh).ql c = newP d ∧ (newE d S0 hh).qr c = newP d := by unfold EnS.ql EnS.qr; split <;> exact ⟨rfl, rfl⟩
  have hl : (newP d).I.length = d := by show (List.replicate d (0 : Int)).length = _; rw [List.length_replicate]
  refine ⟨hc, by omega, by omega, by omega, ok, fr, by omega, rfl, rfl, by rw [hq.1, hl]; omega, by rw [hq.2, hl]; omega, by omega, by rw [hq.1]; rfl, .inl (by rw [hq.2]; rfl), Nat.le_refl _, Nat.le_refl _, Nat.le_refl _, Nat.le_refl _, Nat.le_refl _, rfl, by show 1 ≤ 64; omega, rfl, fun j S h2 hj => ?_, fun m hm _ => ?_, fun m hm _ => ?_, by show (0 : Int) ≤ _; omega⟩
  · have h1 : j < 1 := (List.getElem?_eq_some_iff.1 hj).1
    obtain rfl : j = 0 := by omega
    have : (S0, hh) = (S, h2) := Option.some.inj hj
    exact (Prod.mk.inj this).1.symm
  · rw [show upTo (newE d S0 hh).Q0 0 = 0 from if_pos rfl] at hm; omega
  · rw [show upTo (newE d S0 hh).Q1 0 = 0 from if_pos rfl] at hm; omega
attribute [local irreducible] stepF saveF useL play dropK inAt
section
variable {c : EnC} {S0 : Nat → Int} {E E1 : EnS} {f : Nat}
set_option maxRecDepth 100000 in
set_option maxHeartbeats 1000000 in
theorem Rest.adv (h : Rest c S0 E1 f) (hw : (E1.qr c).wr = -1) (hm : f < E1.conf + c.ah) (hf : f < 150) (x hh : Int) : Rest c S0 ((E1.adv c f x hh).drops ((E1.adv c f x hh).below (f + 1))) (f + 1) := by
  have hw0 : E1.Q0.wr = -1 ∧ E1.Q1.wr = -1 := by
    have hwl := h.wl
    unfold EnS.ql at hwl
    unfold EnS.qr at hw
    by_cases e : c.loc = 0
    · simp only [if_pos e] at hwl hw; exact ⟨hwl, hw⟩
    · simp only [if_neg e] at hwl hw; exact ⟨hw, hwl⟩
  have b0 : Agree E1.Q0 f := by have := h.b0; rw [show upTo E1.Q0 f = f from if_pos hw0.1] at this; exact this
  have b1 : Agree E1.Q1 f := by have := h.b1; rw [show upTo E1.Q1 f = f from if_pos hw0.2] at this; exact this
  have hsl := h.sl
  have hsf := h.sf
  have ha0 := h.a0
  have ha1 := h.a1
  have hil := h.il
  have hir := h.ir
  have hia := h.ia
  have hk0 := h.k0
  have hk1 := h.k1
  have hu0 := h.u0
  have hu1 := h.u1
  have hl := h.l
  -- with one's own input
  have key : ∀ E2 : EnS, E2.S = E1.S → E2.L = E1.L → E2.sf = E1.sf → E2.Q0.A = E1.Q0.A → E2.Q1.A = E1.Q1.A → Agree E2.Q0 f → Agree E2.Q1 f → E2.Q0.wr = -1 → E2.Q1.wr = -1 → E2.Q0.kf = E1.Q0.kf → E2.Q1.kf = E1.Q1.kf → E2.Q0.uf = E1.Q0.uf → E2.Q1.uf = E1.Q1.uf → E2.wo = E1.wo →
      (E2.ql c).I.length = c.del + (f + 1) → (E2.qr c).I.length ≤ 170 → f + 1 ≤ (E2.qr c).I.length + c.ah → Rest c S0 ((E2.step f hh).drops ((E2.step f hh).below (f + 1))) (f + 1) := by
    intro E2 e1 e2 e3 e4 e5 e6 e7 e8 e9 e10 e11 e12 e13 e14 e15 e16 e17
    have m0 : Mid S0 E2 f := ⟨by rw [e1, e4, e5]; exact h.now, fun j S h2 _ hj => by rw [e2] at hj; rw [e3, e4, e5]; exact h.sv j S h2 hj, e6, e7, by rw [e4]; omega, by rw [e5]; omega, by rw [e3]; omega, by rw [e2, e3]; omega, by rw [e2]; omega⟩
    have m1 := m0.step hh
    have hbl := (E2.step f hh).below_le (f + 1)
    generalize (E2.step f hh).below (f + 1) = bl at *
    have hB := b_sub f
    have r1 := drop_le E2.Q0.kf (E2.Q0.I.length - E2.Q0.kf) (min bl ((E2.Q0.use f).A.length : Nat)) (f + 1 - 64) (e10 ▸ Nat.le_trans hk0 hB) (Int.le_trans (Int.min_le_left _ _) hbl)
    have r2 := drop_le E2.Q1.kf (E2.Q1.I.length - E2.Q1.kf) (min bl ((E2.Q1.use f).A.length : Nat)) (f + 1 - 64) (e11 ▸ Nat.le_trans hk1 hB) (Int.le_trans (Int.min_le_left _ _) hbl)
    have r3 := drop_le E2.Q0.uf ((E2.Q0.use f).A.length - E2.Q0.uf) bl (f + 1 - 64) (e12 ▸ Nat.le_trans hu0 hB) hbl
    have r4 := drop_le E2.Q1.uf ((E2.Q1.use f).A.length - E2.Q1.uf) bl (f + 1 - 64) (e13 ▸ Nat.le_trans hu1 hB) hbl
    have hmx := b_max f
    have u0 : (E2.Q0.use f).A.length = f + 1 := by show (useL _ _ _).length = _; rw [useL_len _ _ _ (by rw [e4, ha0]; exact Nat.le_refl _), e4, ha0]; exact hmx
    have u1 : (E2.Q1.use f).A.length = f + 1 := by show (useL _ _ _).length = _; rw [useL_len _ _ _ (by rw [e5, ha1]; exact Nat.le_refl _), e5, ha1]; exact hmx
    have hfb : f + 1 ≤ 150 := hf
    have s5 : max E2.sf (f + 1 - 63) ≤ f + 1 - 63 := by rw [e3]; exact b_sf _ f hsf
    have s6 : ∀ a b j : Nat, a + b = f + 1 + 1 → j < b → a + j ≤ f + 1 := fun a b j h1 h2 => b_lt f a b j h1 h2
    obtain ⟨s1, s2, s3⟩ := saveF_sum E2.sf E2.L (stepF (inAt E2.Q0.I f) (inAt E2.Q1.I f) E2.S) hh (f + 1) (Nat.le_succ_of_le m0.sf) m0.le m0.l
    have s4 := saveF_sf E2.sf E2.L (stepF (inAt E2.Q0.I f) (inAt E2.Q1.I f) E2.S) hh (f + 1) m0.le
    have hql : (((E2.step f hh).drops bl).ql c).I = (E2.ql c).I ∧ (((E2.step f hh).drops bl).qr c).I = (E2.qr c).I ∧ (((E2.step f hh).drops bl).ql c).wr = (E2.ql c).wr ∧ (((E2.step f hh).drops bl).qr c).wr = (E2.qr c).wr := by
      exact ⟨by unfold EnS.ql; split <;> rfl, by unfold EnS.qr; split <;> rfl, by unfold EnS.ql; split <;> rfl, by unfold EnS.qr; split <;> rfl⟩
    have hwlr : (E2.ql c).wr = -1 ∧ (E2.qr c).wr = -1 := by
      unfold EnS.ql EnS.qr
      by_cases e : c.loc = 0
      · simp only [if_pos e]; exact ⟨e8, e9⟩
      · simp only [if_neg e]; exact ⟨e9, e8⟩
    refine ⟨h.loc, h.del, h.ah1, h.ah, h.ok0, h.fr0, hfb, u0, u1, by rw [hql.1, e15], by rw [hql.2.1]; exact e16, by rw [hql.2.1]; exact e17, by rw [hql.2.2.1]; exact hwlr.1, .inl (by rw [hql.2.2.2]; exact hwlr.2), ?_, ?_, ?_, ?_, ?_, ?_, s2, m1.now, fun j S h2 hj => m1.sv j S h2 ?_ hj, ?_, ?_, ?_⟩
    · exact r1
    · exact r2
    · exact r3
    · exact r4
    · exact Nat.le_trans s4 s5
    · exact s1
    · have hj2 : j < (saveF E2.sf E2.L (stepF (inAt E2.Q0.I f) (inAt E2.Q1.I f) E2.S) hh (f + 1)).2.length := (List.getElem?_eq_some_iff.1 hj).1
      exact s6 _ _ j s1 hj2
    · rw [show upTo ((E2.step f hh).drops bl).Q0 (f + 1) = f + 1 from if_pos e8]; exact m1.b0
    · rw [show upTo ((E2.step f hh).drops bl).Q1 (f + 1) = f + 1 from if_pos e9]; exact m1.b1
    · show E2.wo ≤ _; rw [e14]; exact h.wo
  have hconf : E1.conf ≤ (E1.qr c).I.length := by
    have := (E1.qlr c).2.2
    omega
  unfold EnS.adv
  unfold EnS.setL
  unfold EnS.ql at hil ⊢
  unfold EnS.qr at hir hconf
  by_cases e : c.loc = 0
  · simp only [if_pos e] at hil hir hconf ⊢
    refine key { E1 with Q0 := E1.Q0.add x } rfl rfl rfl rfl rfl (b0.add (by omega) x) b1 ?_ hw0.2 rfl rfl rfl rfl rfl ?_ ?_ ?_
    · show addW E1.Q0.wr E1.Q0.A E1.Q0.I.length x = -1
      rw [hw0.1]; exact addW_calm _ _ _ (by omega)
    · unfold EnS.ql; simp only [if_pos e]
      show (E1.Q0.I ++ [x]).length = _
      rw [List.length_append]; simp; omega
    · unfold EnS.qr; simp only [if_pos e]; exact hir
    · unfold EnS.qr; simp only [if_pos e]; omega
  · simp only [if_neg e] at hil hir hconf ⊢
    refine key { E1 with Q1 := E1.Q1.add x } rfl rfl rfl rfl rfl b0 (b1.add (by omega) x) hw0.1 ?_ rfl rfl rfl rfl rfl ?_ ?_ ?_
    · show addW E1.Q1.wr E1.Q1.A E1.Q1.I.length x = -1
      rw [hw0.2]; exact addW_calm _ _ _ (by omega)
    · unfold EnS.ql; simp only [if_neg e]
      show (E1.Q1.I ++ [x]).length = _
      rw [List.length_append]; simp; omega
    · unfold EnS.qr; simp only [if_neg e]; exact hir
    · unfold EnS.qr; simp only [if_neg e]; omega
set_option maxRecDepth 100000 in
/-- the peer's queue, behind an input more -/
theorem add_peer {Q : PlS} {f ah : Nat} (ha : Q.A.length = f) (hia : f ≤ Q.I.length + ah) (hwr : Q.wr = -1 ∨ ∃ k : Nat, Q.wr = (k : Nat) ∧ k < f ∧ f ≤ k + ah ∧ k < Q.I.length) (hb : Agree Q (upTo Q f)) (x : Int) :
    ((Q.add x).wr = -1 ∨ ∃ k : Nat, (Q.add x).wr = (k : Nat) ∧ k < f ∧ f ≤ k + ah ∧ k < (Q.add x).I.length) ∧ Agree (Q.add x) (upTo (Q.add x) f) := by
  have hlen : (Q.add x).I.length = Q.I.length + 1 := by show (Q.I ++ [x]).length = _; rw [List.length_append]; rfl
  have hget : ∀ m, m < Q.I.length → (Q.add x).I[m]? = Q.I[m]? := fun m hm => List.getElem?_append_left hm
  have hlast : (Q.add x).I[Q.I.length]? = some x := by show (Q.I ++ [x])[Q.I.length]? = _; rw [List.getElem?_append_right (Nat.le_refl _)]; simp
  by_cases hn : Q.I.length < f
  · have hw : (Q.add x).wr = wrongF Q.wr Q.I.length (Q.A.getD Q.I.length 0) x := by
      show addW Q.wr Q.A Q.I.length x = _
      unfold addW; rw [if_pos (by omega)]
    have hA : Q.A[Q.I.length]? = some (Q.A.getD Q.I.length 0) := getD_some _ _ _ (by omega)
    by_cases hy : Q.A.getD Q.I.length 0 = x
    · have hw2 : (Q.add x).wr = Q.wr := by rw [hw]; unfold wrongF; rw [if_pos hy]
      refine ⟨?_, fun m hm hl => ?_⟩
      · rcases hwr with e | ⟨k, e, h1, h2, h3⟩
        · exact .inl (by rw [hw2]; exact e)
        · exact .inr ⟨k, by rw [hw2]; exact e, h1, h2, by omega⟩
      · have hu : upTo (Q.add x) f = upTo Q f := by unfold upTo; rw [hw2]
        rw [hu] at hm
        show Q.A[m]? = _
        rcases Nat.lt_or_ge m Q.I.length with h | h
        · rw [hget m h]; exact hb m hm h
        · have e : m = Q.I.length := by omega
          rw [e, hlast, hA, hy]
    · by_cases e0 : Q.wr = -1
      · have hw2 : (Q.add x).wr = (Q.I.length : Nat) := by rw [hw]; unfold wrongF; rw [if_neg hy, if_pos (.inl (by omega))]
        refine ⟨.inr ⟨Q.I.length, hw2, hn, by omega, by omega⟩, fun m hm hl => ?_⟩
        have hu : upTo (Q.add x) f = Q.I.length := by unfold upTo; rw [hw2, if_neg (by omega)]; omega
        rw [hu] at hm
        show Q.A[m]? = _
        rw [hget m hm]
        exact hb m (by rw [show upTo Q f = f from if_pos e0]; omega) hm
      · rcases hwr with e | ⟨k, e, h1, h2, h3⟩
        · exact absurd e e0
        · have hw2 : (Q.add x).wr = Q.wr := by rw [hw]; unfold wrongF; rw [if_neg hy, if_neg (by omega)]
          refine ⟨.inr ⟨k, by rw [hw2]; exact e, h1, h2, by omega⟩, fun m hm hl => ?_⟩
          have hu : upTo (Q.add x) f = upTo Q f := by unfold upTo; rw [hw2]
          rw [hu] at hm
          have hk : upTo Q f = k := by unfold upTo; rw [e, if_neg (by omega)]; omega
          show Q.A[m]? = _
          rw [hget m (by omega)]
          exact hb m hm (by omega)
  · have hw2 : (Q.add x).wr = Q.wr := by show addW Q.wr Q.A Q.I.length x = _; unfold addW; rw [if_neg (by omega)]
    have hu : upTo (Q.add x) f = upTo Q f := by unfold upTo; rw [hw2]
    refine ⟨?_, fun m hm hl => ?_⟩
    · rcases hwr with e | ⟨k, e, h1, h2, h3⟩
      · exact .inl (by rw [hw2]; exact e)
      · exact .inr ⟨k, by rw [hw2]; exact e, h1, h2, by omega⟩
    · rw [hu] at hm
      have hle : upTo Q f ≤ f := by
        unfold upTo
        rcases hwr with e | ⟨k, e, h1, h2, h3⟩
        · rw [if_pos e]; exact Nat.le_refl _
        · rw [e, if_neg (by omega)]; omega
      show Q.A[m]? = _
      rw [hget m (by omega)]
      exact hb m hm (by omega)
set_option maxRecDepth 100000 in
theorem Rest.add (h : Rest c S0 E f) (x : Int) (hl : (E.qr c).I.length < 170) : Rest c S0 (E.setR c ((E.qr c).add x)) f := by
  have hia := h.ia
  have hwr := h.wr
  have hil := h.il
  have hwl := h.wl
  unfold EnS.setR
  unfold EnS.ql at hil hwl
  unfold EnS.qr at hl hia hwr ⊢
  by_cases e : c.loc = 0
  · simp only [if_pos e] at hl hia hwr hil hwl ⊢
    obtain ⟨g1, g2⟩ := add_peer h.a1 hia hwr h.b1 x
    have hlen : (E.Q1.add x).I.length = E.Q1.I.length + 1 := by show (E.Q1.I ++ [x]).length = _; rw [List.length_append]; rfl
    have hq : (({ E with Q1 := E.Q1.add x } : EnS)).ql c = E.Q0 ∧ (({ E with Q1 := E.Q1.add x } : EnS)).qr c = E.Q1.add x := ⟨by unfold EnS.ql; rw [if_pos e], by unfold EnS.qr; rw [if_pos e]⟩
    exact ⟨h.loc, h.del, h.ah1, h.ah, h.ok0, h.fr0, h.fb, h.a0, h.a1, by rw [hq.1]; exact hil, by rw [hq.2]; omega, by rw [hq.2]; omega, by rw [hq.1]; exact hwl, by rw [hq.2]; exact g1, h.k0, h.k1, h.u0, h.u1, h.sf, h.sl, h.l, h.now, h.sv, h.b0, g2, h.wo⟩
  · simp only [if_neg e] at hl hia hwr hil hwl ⊢
    obtain ⟨g1, g2⟩ := add_peer h.a0 hia hwr h.b0 x
    have hlen : (E.Q0.add x).I.length = E.Q0.I.length + 1 := by show (E.Q0.I ++ [x]).length = _; rw [List.length_append]; rfl
    have hq : (({ E with Q0 := E.Q0.add x } : EnS)).ql c = E.Q1 ∧ (({ E with Q0 := E.Q0.add x } : EnS)).qr c = E.Q0.add x := ⟨by unfold EnS.ql; rw [if_neg e], by unfold EnS.qr; rw [if_neg e]⟩
    exact ⟨h.loc, h.del, h.ah1, h.ah, h.ok0, h.fr0, h.fb, h.a0, h.a1, by rw [hq.1]; exact hil, by rw [hq.2]; omega, by rw [hq.2]; omega, by rw [hq.1]; exact hwl, by rw [hq.2]; exact g1, h.k0, h.k1, h.u0, h.u1, h.sf, h.sl, h.l, h.now, h.sv, g2, h.b1, h.wo⟩
set_option maxRecDepth 100000 in
/-- what it has played, when all inputs have come -/
theorem Rest.played (h : Rest c S0 E f) (hw : (E.qr c).wr = -1) (hl : f ≤ (E.qr c).I.length) : E.S = play S0 E.Q0.I E.Q1.I f ∧ f ≤ E.Q0.I.length ∧ f ≤ E.Q1.I.length ∧ min E.conf f = f := by
  have hil := h.il
  have hwl := h.wl
  have hlr := E.qlr c
  have h01 : E.Q0.wr = -1 ∧ E.Q1.wr = -1 ∧ f ≤ E.Q0.I.length ∧ f ≤ E.Q1.I.length := by
    unfold EnS.ql at hil hwl
    unfold EnS.qr at hw hl
    by_cases e : c.loc = 0
    · simp only [if_pos e] at hil hwl hw hl; exact ⟨hwl, hw, by omega, hl⟩
    · simp only [if_neg e] at hil hwl hw hl; exact ⟨hw, hwl, hl, by omega⟩
  refine ⟨?_, h01.2.2.1, h01.2.2.2, by unfold EnS.conf; omega⟩
  rw [h.now]
  refine play_congr _ _ _ _ _ f (fun m hm => ⟨?_, ?_⟩)
  · exact h.b0 m (by rw [show upTo E.Q0 f = f from if_pos h01.1]; exact hm) (by omega)
  · exact h.b1 m (by rw [show upTo E.Q1 f = f from if_pos h01.2.1]; exact hm) (by omega)
end
end Go.Proofs.Ytmfagdbocidfjaa
