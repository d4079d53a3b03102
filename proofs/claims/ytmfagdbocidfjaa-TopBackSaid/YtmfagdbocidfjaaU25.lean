import Derived.Test.YtmfagdbocidfjaaU24
/- An engine: it goes back, and plays again. Conditions: what it holds. -/
namespace Go.Proofs.Ytmfagdbocidfjaa
open Go.RowKit
set_option maxRecDepth 100000 in
theorem EnTo.calm0 {w W : World} {lo : Nat} {c : EnC} {F : Nat → Prop} {E : EnS} (h : EnTo W lo c F E w) :
    Calls Try.prog 39 #[.pointer (some ⟨c.p0, 0, none⟩)] w (fun e w' => e = .returned (.tuple #[]) ∧ EnTo W lo c F { E with Q0 := ⟨E.Q0.I, E.Q0.A, E.Q0.kf, E.Q0.uf, -1⟩ } w') := by
  obtain ⟨G, hG, hto⟩ := h.q0
  exact (q_right hG).mono fun e w' hx => ⟨hx.1, hto _ _ _ _ _ _ hx.2⟩
set_option maxRecDepth 100000 in
theorem EnTo.calm1 {w W : World} {lo : Nat} {c : EnC} {F : Nat → Prop} {E : EnS} (h : EnTo W lo c F E w) :
    Calls Try.prog 39 #[.pointer (some ⟨c.p1, 0, none⟩)] w (fun e w' => e = .returned (.tuple #[]) ∧ EnTo W lo c F { E with Q1 := ⟨E.Q1.I, E.Q1.A, E.Q1.kf, E.Q1.uf, -1⟩ } w') := by
  obtain ⟨G, hG, hto⟩ := h.q1
  exact (q_right hG).mono fun e w' hx => ⟨hx.1, hto _ _ _ _ _ _ hx.2⟩
set_option maxRecDepth 100000 in
theorem EnTo.wrong0 {w W : World} {lo : Nat} {c : EnC} {F : Nat → Prop} {E : EnS} (h : EnTo W lo c F E w) :
    Calls Try.prog 38 #[.pointer (some ⟨c.p0, 0, none⟩)] w (fun e w' => e = .returned (.int .i64 E.Q0.wr) ∧ w = w') := by
  obtain ⟨G, hG, _⟩ := h.q0
  exact q_wrong hG
set_option maxRecDepth 100000 in
theorem EnTo.wrong1 {w W : World} {lo : Nat} {c : EnC} {F : Nat → Prop} {E : EnS} (h : EnTo W lo c F E w) :
    Calls Try.prog 38 #[.pointer (some ⟨c.p1, 0, none⟩)] w (fun e w' => e = .returned (.int .i64 E.Q1.wr) ∧ w = w') := by
  obtain ⟨G, hG, _⟩ := h.q1
  exact q_wrong hG
/-- what it goes back to, and what it has played again -/
def FixTo (w : World) (lo : Nat) (c : EnC) (F : Nat → Prop) (E : EnS) (f r : Nat) (w' : World) : Prop :=
  ∃ S hh E2, E.L[r - E.sf]? = some (S, hh) ∧ Steps { E.calm with S := S } r (f - r) E2 ∧ EnTo w lo c F { E2 with S := E2.S, wo := max E2.wo ((f - r : Nat) : Int) } w'
def FixPost (w : World) (lo : Nat) (c : EnC) (F : Nat → Prop) (E : EnS) (f r : Nat) (e : Ending) (w' : World) : Prop :=
  e = .returned (.int .i64 ((f - r : Nat) : Int)) ∧ (r = f → EnTo w lo c F E.calm w') ∧ (r < f → FixTo w lo c F E f r w')
attribute [local irreducible] wIndex stA blk wLoad wLoadRes loadAns wStore wStoreRes storeAns Plain stepF
attribute [local go_sem ↓] ix_qs0 ld_st0 sto_st0
attribute [local go_sem] ix_qs_0 ix_qs_1 ld_st loadAns_some sto_st stA_size st_plain storeAns_some blk_alloc_if blk_setRow_if blk_drew_at blk_drewN_at rowPut_some
section
variable {w : World} {lo : Nat} {c : EnC} {F0 F1 FS : Nat → Prop} {E : EnS} {f r : Nat}
set_option maxRecDepth 100000 in
set_option maxHeartbeats 4000000 in
theorem e_fix (h : EnAt w lo c F0 F1 FS E) (hf : E.S 0 = (f : Nat)) (hf2 : f < 256) (hr : minW (minW f E.Q0.wr) E.Q1.wr = (r : Nat)) (hrf : r ≤ f) (hsf : E.sf ≤ r) (hsl : E.sf + E.L.length = f + 1) (hL : E.L.length ≤ 64)
    (h0 : PlOk E.Q0 r) (h1 : PlOk E.Q1 r) (hS : ∀ S hh, E.L[r - E.sf]? = some (S, hh) → S 0 = (r : Nat) ∧ GOk S) :
    Calls Try.prog 12 #[.pointer (some ⟨c.x, 0, none⟩)] w (FixPost w lo c (enFoot c F0 F1 FS) E f r) := by
  have hE0 := Lib.hid h.to
  have hfr := Lib.hid (e_frame h.b)
  rw [hf] at hfr
  obtain ⟨S, hh, hget⟩ : ∃ S hh, E.L[r - E.sf]? = some (S, hh) := by
    obtain ⟨⟨S, hh⟩, e⟩ : ∃ e, E.L[r - E.sf]? = some e := ⟨_, List.getElem?_eq_getElem (by omega)⟩
    exact ⟨S, hh, e⟩
  obtain ⟨hS0, hSG⟩ := hS S hh hget
  have hS0h := Lib.hid hS0
  have hgeth := Lib.hid hget
  have ok1 : Hid (StOk { E.calm with S := S } r) := hide ⟨hS0, ⟨h0.i, h0.a, h0.k, h0.u, h0.f⟩, ⟨h1.i, h1.a, h1.k, h1.u, h1.f⟩, hsf, by show r + 1 ≤ E.sf + E.L.length; omega, hL, by show E.sf + E.L.length ≤ 9000; omega, hSG⟩
  have hSlh : Hid (E.sf + E.L.length ≤ 10000) := hide (by omega)
  have hsfh := Lib.hid hsf
  have hend0 : Hid (∀ W', r = f → EnTo w lo c (enFoot c F0 F1 FS) E.calm W' → FixPost w lo c (enFoot c F0 F1 FS) E f r (.returned (.int .i64 0)) W') := hide (fun W' e hx => ⟨by rw [e, Nat.sub_self]; rfl, fun _ => hx, fun h => absurd h (by omega)⟩)
  have hend1 : Hid (∀ W' E2, r < f → Steps { E.calm with S := S } r (f - r) E2 → EnTo w lo c (enFoot c F0 F1 FS) { E2 with S := E2.S, wo := max E2.wo ((f - r : Nat) : Int) } W' → FixPost w lo c (enFoot c F0 F1 FS) E f r (.returned (.int .i64 ((f - r : Nat) : Int))) W') := hide (fun W' E2 e h2 hx => ⟨rfl, fun e2 => absurd e2 (by omega), fun _ => ⟨S, hh, E2, hget, h2, hx⟩⟩)
  have hfh := Lib.hid hf
  have hf2h := Lib.hid hf2
  have hrfh := Lib.hid hrf
  have hrh := Lib.hid hr
  generalize enFoot c F0 F1 FS = F at *
  clear h hf hf2 hr hrf hsf hsl hL h0 h1 hS hget hS0 hSG
  obtain ⟨x, hx⟩ : ∃ x, c.x = x := ⟨_, rfl⟩
  have hxh := Lib.hid hx
  rw [hx] at hfr ⊢
  clear hx
  have c4 : w.cell? ⟨x, 4, none⟩ = some (.pointer (some ⟨c.p0, 0, none⟩)) := by rw [← hxh.out]; exact hE0.out.blk.p0
  have c5 : w.cell? ⟨x, 5, none⟩ = some (.pointer (some ⟨c.p1, 0, none⟩)) := by rw [← hxh.out]; exact hE0.out.blk.p1
  go_enter Try.func12, Try.ntmps12
  go_wp2_with fail
  refine hfr.out.mono ?_
  rintro e w1 ⟨rfl, rfl⟩
  go_upto_region 3 with (fail)
  clear c4 c5 hfr
  obtain ⟨n1, hn1⟩ : ∃ n1 : Int, minW f E.Q0.wr = n1 := ⟨_, rfl⟩
  have hn1h := Lib.hid hn1
  rw [show minW f E.Q0.wr = n1 from hn1] at hrh
  clear hn1
  go_loopw [3, 17] (fun v3 v17 wr => (v17 = .int .i64 0 ∧ v3 = .int .i64 (f : Nat) ∧ Hid (EnTo w lo c F E wr)) ∨ (v17 = .int .i64 1 ∧ v3 = .int .i64 n1 ∧ Hid (EnTo w lo c F { E with Q0 := ⟨E.Q0.I, E.Q0.A, E.Q0.kf, E.Q0.uf, -1⟩ } wr)) ∨ (v17 = .int .i64 2 ∧ v3 = .int .i64 (r : Nat) ∧ Hid (EnTo w lo c F E.calm wr))) (fun _ v17 _ => 2 - (intOf v17).toNat)
  case atStart => exact .inl ⟨rfl, rfl, hE0⟩
  case round =>
    clear hE0
    rcases hrel with ⟨rfl, rfl, hE⟩ | ⟨rfl, rfl, hE⟩ | ⟨rfl, rfl, hE⟩
    · have kw := Lib.hid (EnTo.wrong0 hE.out)
      have kc := Lib.hid (EnTo.calm0 hE.out)
      obtain ⟨wr0, hwr0⟩ : ∃ z : Int, E.Q0.wr = z := ⟨_, rfl⟩
      rw [show (E).Q0.wr = wr0 from hwr0] at kw
      have hmin := hn1h.out
      rw [hwr0] at hmin
      have hminh := Lib.hid hmin
      clear hwr0 hmin
      by_cases hp : 0 ≤ wr0
      · have d0 : decide ((0 : Int) ≤ wr0) = true := decide_eq_true hp
        have hm2 : min ((f : Int)) wr0 = n1 := by have := hminh.out; unfold minW at this; rw [if_pos hp] at this; exact this
        have hm2h := Lib.hid hm2
        clear hm2
        go_wp2_with fail
        refine kw.out.mono ?_
        rintro e w2 ⟨rfl, rfl⟩
        go_wp2_with fail
        all_goals
          refine kc.out.mono ?_
          rintro e w3 ⟨rfl, hE3⟩
          have hE3h := Lib.hid hE3
          clear hE3
          go_wp2_with fail
          have hm3 := hm2h.out
          refine ⟨?_, ?_⟩
          rotate_left
          · simp [intOf]
          first
            | exact .inr (.inl ⟨rfl, by congr 1; omega, hE3h⟩)
            | (repeat (apply Exists.intro)
               exact ⟨.inr (.inl ⟨rfl, by congr 1; omega, hE3h⟩), rfl⟩)
      · have d0 : decide ((0 : Int) ≤ wr0) = false := decide_eq_false hp
        have hm2 : (f : Int) = n1 := by have := hminh.out; unfold minW at this; rw [if_neg hp] at this; exact this
        have hm2h := Lib.hid hm2
        clear hm2
        go_wp2_with fail
        refine kw.out.mono ?_
        rintro e w2 ⟨rfl, rfl⟩
        go_wp2_with fail
        refine kc.out.mono ?_
        rintro e w3 ⟨rfl, hE3⟩
        have hE3h := Lib.hid hE3
        clear hE3
        go_wp2_with fail
        have hm3 := hm2h.out
        refine ⟨?_, ?_⟩
        rotate_left
        · simp [intOf]
        first
          | exact .inr (.inl ⟨rfl, by congr 1, hE3h⟩)
          | (repeat (apply Exists.intro)
             exact ⟨.inr (.inl ⟨rfl, by congr 1, hE3h⟩), rfl⟩)
    · have kw := Lib.hid (EnTo.wrong1 hE.out)
      have kc := Lib.hid (EnTo.calm1 hE.out)
      obtain ⟨wr0, hwr0⟩ : ∃ z : Int, E.Q1.wr = z := ⟨_, rfl⟩
      rw [show (({ E with Q0 := ⟨E.Q0.I, E.Q0.A, E.Q0.kf, E.Q0.uf, -1⟩ } : EnS)).Q1.wr = wr0 from hwr0] at kw
      have hmin := hrh.out
      rw [hwr0] at hmin
      have hminh := Lib.hid hmin
      clear hwr0 hmin
      by_cases hp : 0 ≤ wr0
      · have d0 : decide ((0 : Int) ≤ wr0) = true := decide_eq_true hp
        have hm2 : min (n1) wr0 = (r : Int) := by have := hminh.out; unfold minW at this; rw [if_pos hp] at this; exact this
        have hm2h := Lib.hid hm2
        clear hm2
        go_wp2_with fail
        refine kw.out.mono ?_
        rintro e w2 ⟨rfl, rfl⟩
        go_wp2_with fail
        all_goals
          refine kc.out.mono ?_
          rintro e w3 ⟨rfl, hE3⟩
          have hE3h := Lib.hid hE3
          clear hE3
          go_wp2_with fail
          have hm3 := hm2h.out
          refine ⟨?_, ?_⟩
          rotate_left
          · simp [intOf]
          first
            | exact .inr (.inr ⟨rfl, by congr 1; omega, hE3h⟩)
            | (repeat (apply Exists.intro)
               exact ⟨.inr (.inr ⟨rfl, by congr 1; omega, hE3h⟩), rfl⟩)
      · have d0 : decide ((0 : Int) ≤ wr0) = false := decide_eq_false hp
        have hm2 : n1 = (r : Int) := by have := hminh.out; unfold minW at this; rw [if_neg hp] at this; exact this
        have hm2h := Lib.hid hm2
        clear hm2
        go_wp2_with fail
        refine kw.out.mono ?_
        rintro e w2 ⟨rfl, rfl⟩
        go_wp2_with fail
        refine kc.out.mono ?_
        rintro e w3 ⟨rfl, hE3⟩
        have hE3h := Lib.hid hE3
        clear hE3
        go_wp2_with fail
        have hm3 := hm2h.out
        refine ⟨?_, ?_⟩
        rotate_left
        · simp [intOf]
        first
          | exact .inr (.inr ⟨rfl, by congr 1, hE3h⟩)
          | (repeat (apply Exists.intro)
             exact ⟨.inr (.inr ⟨rfl, by congr 1, hE3h⟩), rfl⟩)
    · have kf := Lib.hid (e_frame hE.out.blk)
      rw [show E.calm.S 0 = (f : Int) from hfh.out, hxh.out] at kf
      have hsub : IntKind.i64.wrap ((f : Int) - (r : Int)) = ((f - r : Nat) : Int) := by
        have := hf2h.out
        have := hrfh.out
        rw [show (f : Int) - (r : Int) = ((f - r : Nat) : Int) by omega]
        exact IntWalk.i64_in _ (by omega)
      by_cases hrf : r = f
      · have hend := Lib.hid (hend0.out wr hrf hE.out)
        have hn : ((f - r : Nat) : Int) = 0 := by omega
        rw [hn] at hsub
        clear hn hrf
        go_wp2_with fail
        refine kf.out.mono ?_
        rintro e w2 ⟨rfl, rfl⟩
        go_wp2_with fail
        go_ret
        exact hend.out
      · have hlt : Hid (r < f) := hide (by have := hrfh.out; omega)
        have hlt0 := hlt.out
        obtain ⟨n, hn⟩ : ∃ n : Nat, f - r = n := ⟨_, rfl⟩
        have hnh := Lib.hid hn
        have hn0 : ((n : Int) == 0) = false := beq_eq_false_iff_ne.2 (by omega)
        have hn00 : (n == 0) = false := beq_eq_false_iff_ne.2 (by omega)
        have hn1 : decide ((n : Int) = 0) = false := decide_eq_false (by omega)
        rw [hn] at hsub hend1
        clear hn hrf hlt0
        have c6 : wr.cell? ⟨x, 6, none⟩ = some (.pointer (some ⟨c.ps, 0, none⟩)) := by rw [← hxh.out]; exact hE.out.blk.ps
        have kat := Lib.hid (by
          obtain ⟨G, hG, _⟩ := hE.out.sv
          have := s_at hG (r - E.sf) S hh hSlh.out hgeth.out
          rw [show E.calm.sf + (r - E.sf) = r from by have := hsfh.out; show E.sf + _ = _; omega] at this
          exact this)
        have hz2 := zeroState
        go_wp2_with fail
        refine kf.out.mono ?_
        rintro e w2 ⟨rfl, rfl⟩
        go_wp2_with fail
        refine kat.out.mono ?_
        rintro e w2 ⟨rfl, hB2⟩
        have hE2 := Lib.hid (hE.out.below hB2)
        clear hB2 kat c6 kf hE
        have hb0 : blk (w2.alloc (.cells (stA fun _ => 0) 49)) w2.heap.size = some (.cells (stA fun _ => 0) 49 (0, 0)) := blk_of (last0 _ _ _ rfl)
        have hb3 : blk ((w2.alloc (.cells (stA fun _ => 0) 49)).setRow w2.heap.size (stA S)) w2.heap.size = some (.cells (stA S) 49 (0, 0)) := blk_of (setRow_heap _ _ _ _ _ _ (blk_heap hb0))
        have hE3 : Hid (EnTo w lo c F E.calm ((w2.alloc (.cells (stA fun _ => 0) 49)).setRow w2.heap.size (stA S))) := hide (hE2.out.below (below_setRow ((Below.refl _ _).alloc (Nat.le_refl _) _) (Nat.le_refl _) _))
        go_upto_region 16 with (fail)
        generalize World.setRow _ _ _ = w3 at *
        obtain ⟨g, hg⟩ : ∃ g, w2.heap.size = g := ⟨_, rfl⟩
        rw [hg] at hb3 ⊢
        clear hg hb0 hE2
        have kf := Lib.hid (e_frame hE3.out.blk)
        rw [show E.calm.S 0 = (f : Int) from hfh.out, hxh.out] at kf
        obtain ⟨hth, hput, hTp⟩ := (EnB.put (S' := S) hE3.out.blk)
        have hE5 := Lib.hid (hE3.out.b hTp (fun _ => hput))
        rw [hxh.out] at hth hE5
        clear hput hTp hE3
        go_wp2_with fail
        refine kf.out.mono ?_
        rintro e w4 ⟨rfl, rfl⟩
        go_wp2_with (with_reducible refine wpList_store_mid rfl 49 (.tmp 52) (.tmp 50) rfl x 7 (stA S) rfl rfl hth (st_infoA S) (st_plain_all S) ?_)
        have hst0 : Hid (Steps { E.calm with S := S } r 0 { E.calm with S := S }) := hide rfl
        clear hth hb3 kf
        generalize World.setCells w3 _ _ _ = w5 at *
        go_upto_region 18 with (fail)
        go_loopw [] (fun wr => ∃ (j : Nat) (E2 : EnS), j ≤ n ∧ Hid (Steps { E.calm with S := S } r j E2) ∧ Hid (EnTo w lo c F E2 wr)) (fun wr => f - frameOf x wr)
        case atStart => exact ⟨0, _, by omega, hst0, hE5⟩
        case round =>
          clear hst0 hE5
          obtain ⟨j, E2, hj, hst, hE⟩ := hrel
          have hokj : Hid (StOk E2 (r + j)) := hide (Steps.ok ok1.out hst.out (by have := hf2h.out; have := hnh.out; have := hlt.out; omega)).1
          have kf := Lib.hid (e_frame hE.out.blk)
          rw [hokj.out.fr, hxh.out] at kf
          have hfo : Hid (frameOf x wr = r + j) := hide (by
            have := hE.out.blk.frame
            rw [hokj.out.fr, hxh.out] at this
            unfold frameOf
            rw [this]
            show ((r + j : Nat) : Int).toNat = _
            omega)
          by_cases hjn : j < n
          · have dj : decide (((r + j : Nat) : Int) < (f : Int)) = true := decide_eq_true (by have := hnh.out; omega)
            have ks : Hid (Calls Try.prog 36 #[.pointer (some ⟨x, 0, none⟩)] wr (fun e w' => e = .returned (.int .i64 0) ∧ ∃ h2, EnTo w lo c F (E2.step (r + j) h2) w')) := hide (by
              obtain ⟨G0, G1, GS, hA, hT, hs⟩ := hE.out
              have := e_step hA hokj.out
              rw [hxh.out] at this
              refine this.mono ?_
              rintro e w' ⟨he, h2, H0, H1, HS, hA2, hT2, hs2⟩
              exact ⟨he, h2, H0, H1, HS, hA2, hT.trans (hT2.mono (fun b _ hb => hs b hb)), fun b hb => (hs2 b hb).elim (fun e => hs b e) (fun e => .inr (Nat.le_trans hT.size e))⟩)
            generalize ((r + j : Nat) : Int) = z at *
            go_wp2_with fail
            refine kf.out.mono ?_
            rintro e w6 ⟨rfl, rfl⟩
            go_wp2_with fail
            refine ks.out.mono ?_
            rintro e w7 ⟨rfl, h2, hE7⟩
            have hE7h := Lib.hid hE7
            have hst7 : Hid (Steps { E.calm with S := S } r (j + 1) (E2.step (r + j) h2)) := hide ⟨E2, h2, hst.out, rfl⟩
            have hfo7 : Hid (frameOf x w7 = r + j + 1) := hide (by
              have h1 := hE7.blk.frame
              rw [((hokj.out.step (by have := hf2h.out; have := hnh.out; omega) h2).1).fr, hxh.out] at h1
              unfold frameOf
              rw [h1]
              show ((r + j + 1 : Nat) : Int).toNat = _
              omega)
            clear hE7 ks kf
            go_wp2_with fail
            refine ⟨?_, ?_⟩
            rotate_left
            · rw [hfo.out, hfo7.out]
              have := hnh.out
              omega
            first
              | exact ⟨j + 1, _, by omega, hst7, hE7h⟩
              | (repeat (apply Exists.intro)
                 exact ⟨⟨j + 1, _, by omega, hst7, hE7h⟩, rfl⟩)
          · obtain rfl : j = n := by omega
            have dj : decide (((r + j : Nat) : Int) < (f : Int)) = false := decide_eq_false (by have := hnh.out; omega)
            obtain ⟨r1, r2, hb, c73, c74, c75, hfz⟩ := hE.out.blk.nums
            have htail : Hid (∀ a b d, d = max E2.wo ((j : Nat) : Int) → FixPost w lo c F E f r (.returned (.int .i64 (j : Nat))) (((wr.setCell ⟨x, 73, none⟩ (.int .i64 a)).setCell ⟨x, 74, none⟩ (.int .i64 b)).setCell ⟨x, 75, none⟩ (.int .i64 d))) := hide (fun a b d hd => by
              subst hd
              refine hend1.out _ E2 hlt.out hst.out ?_
              rw [← hxh.out]
              exact hE.out.b (touch_three wr c.x 73 74 75 _ _ _) (fun _ => EnB.tail hb))
            have f73 := hfz 73
            have f74 := hfz 74
            have f75 := hfz 75
            rw [hxh.out] at c73 c74 c75 f73 f74 f75
            generalize ((r + j : Nat) : Int) = z at *
            generalize E2.wo = wo at *
            clear hE hb hfz hst hfo hokj
            go_wp2_with fail
            refine kf.out.mono ?_
            rintro e w6 ⟨rfl, rfl⟩
            go_wp2_with fail
            all_goals
              go_ret
              exact htail.out _ _ _ (by omega)
end
end Go.Proofs.Ytmfagdbocidfjaa

/- An engine at rest: the numbers within which it stays. Lemmas alone. -/
namespace Go.Proofs.Ytmfagdbocidfjaa
open Go.RowKit
set_option maxRecDepth 100000 in
theorem Steps.q0 {E : EnS} {r : Nat} : ∀ {n : Nat} {E' : EnS}, Steps E r n E' → E'.Q0.I = E.Q0.I ∧ E'.Q0.kf = E.Q0.kf ∧ E'.Q0.uf = E.Q0.uf ∧ E'.Q0.wr = E.Q0.wr
  | 0, E', hs => by cases (show E' = E from hs); exact ⟨rfl, rfl, rfl, rfl⟩
  | n + 1, E', ⟨E'', hh, h1, h2⟩ => by subst h2; have h3 := Steps.q0 h1; exact h3
set_option maxRecDepth 100000 in
theorem Steps.q1 {E : EnS} {r : Nat} : ∀ {n : Nat} {E' : EnS}, Steps E r n E' → E'.Q1.I = E.Q1.I ∧ E'.Q1.kf = E.Q1.kf ∧ E'.Q1.uf = E.Q1.uf ∧ E'.Q1.wr = E.Q1.wr
  | 0, E', hs => by cases (show E' = E from hs); exact ⟨rfl, rfl, rfl, rfl⟩
  | n + 1, E', ⟨E'', hh, h1, h2⟩ => by subst h2; have h3 := Steps.q1 h1; exact h3
set_option maxRecDepth 100000 in
theorem Steps.a0 {E : EnS} {r : Nat} (h : r ≤ E.Q0.A.length) : ∀ {n : Nat} {E' : EnS}, Steps E r n E' → E'.Q0.A.length = max E.Q0.A.length (r + n)
  | 0, E', hs => by cases (show E' = E from hs); omega
  | n + 1, E', ⟨E'', hh, h1, h2⟩ => by
    subst h2
    have h3 := Steps.a0 h h1
    have := useL_len E''.Q0.A (r + n) (inAt E''.Q0.I (r + n)) (by omega)
    show (useL _ _ _).length = _
    omega
set_option maxRecDepth 100000 in
theorem Steps.a1 {E : EnS} {r : Nat} (h : r ≤ E.Q1.A.length) : ∀ {n : Nat} {E' : EnS}, Steps E r n E' → E'.Q1.A.length = max E.Q1.A.length (r + n)
  | 0, E', hs => by cases (show E' = E from hs); omega
  | n + 1, E', ⟨E'', hh, h1, h2⟩ => by
    subst h2
    have h3 := Steps.a1 h h1
    have := useL_len E''.Q1.A (r + n) (inAt E''.Q1.I (r + n)) (by omega)
    show (useL _ _ _).length = _
    omega
set_option maxRecDepth 100000 in
theorem saveF_sf (first : Nat) (L : List ((Nat → Int) × Int)) (S : Nat → Int) (hh : Int) (g : Nat) (h2 : g ≤ first + L.length) : (saveF first L S hh g).1 ≤ max first (g - 63) := by
  unfold saveF putF
  have hl : (L.take (g - first)).length = g - first := by rw [List.length_take]; omega
  rw [hl]
  split
  · show first + 1 ≤ _; omega
  · show first ≤ _; omega
set_option maxRecDepth 100000 in
theorem Steps.sfb {E : EnS} {r : Nat} (h : StOk E r) : ∀ {n : Nat} {E' : EnS}, Steps E r n E' → r + n < 256 → E'.sf ≤ max E.sf (r + n - 63)
  | 0, E', hs, _ => by cases (show E' = E from hs); omega
  | n + 1, E', ⟨E'', hh, h1, h2⟩, hn => by
    subst h2
    have h3 := Steps.sfb h h1 (by omega)
    have h4 := (Steps.ok h h1 (by omega)).1
    have := saveF_sf E''.sf E''.L (stepF (inAt E''.Q0.I (r + n)) (inAt E''.Q1.I (r + n)) E''.S) hh (r + n + 1) h4.le
    show (saveF _ _ _ _ _).1 ≤ _
    omega
/-- what an engine is behind its going back -/
def FixRel (E : EnS) (f r : Nat) (E1 : EnS) : Prop :=
  (r = f ∧ E1 = E.calm) ∨ (r < f ∧ ∃ S hh E2, E.L[r - E.sf]? = some (S, hh) ∧ Steps { E.calm with S := S } r (f - r) E2 ∧ E1 = { E2 with S := E2.S, wo := max E2.wo ((f - r : Nat) : Int) })
set_option maxRecDepth 100000 in
theorem FixPost.rel {w w' : World} {lo : Nat} {c : EnC} {F : Nat → Prop} {E : EnS} {f r : Nat} {e : Ending} (h : FixPost w lo c F E f r e w') (hr : r ≤ f) : e = .returned (.int .i64 ((f - r : Nat) : Int)) ∧ ∃ E1, FixRel E f r E1 ∧ EnTo w lo c F E1 w' := by
  obtain ⟨h1, h2, h3⟩ := h
  refine ⟨h1, ?_⟩
  rcases Nat.lt_or_ge r f with e | e
  · obtain ⟨S, hh, E2, g1, g2, g3⟩ := h3 e
    exact ⟨_, .inr ⟨e, S, hh, E2, g1, g2, rfl⟩, g3⟩
  · have e2 : r = f := by omega
    exact ⟨_, .inl ⟨e2, rfl⟩, h2 e2⟩
/-- the numbers of an engine at rest, at frame f, which goes back to frame r -/
structure Num (c : EnC) (E : EnS) (f r : Nat) : Prop where
  loc : c.loc < 2
  ah : c.ah ≤ 16
  fb : f ≤ 200
  fr : E.S 0 = (f : Nat)
  a0 : E.Q0.A.length = f
  a1 : E.Q1.A.length = f
  i0 : E.Q0.I.length ≤ 250
  i1 : E.Q1.I.length ≤ 250
  il : f ≤ (E.ql c).I.length
  k0 : E.Q0.kf ≤ f - 64
  k1 : E.Q1.kf ≤ f - 64
  u0 : E.Q0.uf ≤ f - 64
  u1 : E.Q1.uf ≤ f - 64
  sf : E.sf ≤ f - 63
  sl : E.sf + E.L.length = f + 1
  l : E.L.length ≤ 64
  rf : r ≤ f
  rb : f ≤ r + 16
  mr : minW (minW f E.Q0.wr) E.Q1.wr = (r : Nat)
  ok : GOk E.S
  sv : ∀ j S hh, E.L[j]? = some (S, hh) → S 0 = ((E.sf + j : Nat) : Int) ∧ GOk S
section
variable {w : World} {lo : Nat} {c : EnC} {F0 F1 FS : Nat → Prop} {E E1 : EnS} {f r : Nat}
set_option maxRecDepth 100000 in
theorem Num.fix (hn : Num c E f r) (h : EnAt w lo c F0 F1 FS E) : Calls Try.prog 12 #[.pointer (some ⟨c.x, 0, none⟩)] w (fun e w' => e = .returned (.int .i64 ((f - r : Nat) : Int)) ∧ ∃ E1, FixRel E f r E1 ∧ EnTo w lo c (enFoot c F0 F1 FS) E1 w') := by
  have := hn.rf
  have := hn.rb
  have := hn.fb
  have hsl := hn.sl
  have hsf := hn.sf
  refine (e_fix h hn.fr (by omega) hn.mr hn.rf (by omega) hn.sl hn.l ⟨by have := hn.i0; omega, by have := hn.a0; omega, by have := hn.k0; omega, by have := hn.u0; omega, by have := hn.a0; omega⟩ ⟨by have := hn.i1; omega, by have := hn.a1; omega, by have := hn.k1; omega, by have := hn.u1; omega, by have := hn.a1; omega⟩ (fun S hh hx => ?_)).mono (fun e w' hx => hx.rel hn.rf)
  have := hn.sv _ S hh hx
  rw [show E.sf + (r - E.sf) = r by omega] at this
  exact this
set_option maxRecDepth 100000 in
theorem FixRel.num (hn : Num c E f r) (h : FixRel E f r E1) : StOk E1 f ∧ E1.Q0.I = E.Q0.I ∧ E1.Q1.I = E.Q1.I ∧ E1.Q0.A.length = f ∧ E1.Q1.A.length = f ∧ E1.Q0.kf = E.Q0.kf ∧ E1.Q1.kf = E.Q1.kf ∧ E1.Q0.uf = E.Q0.uf ∧ E1.Q1.uf = E.Q1.uf ∧ E1.Q0.wr = -1 ∧ E1.Q1.wr = -1 ∧ E1.sf ≤ f - 63 ∧ E1.sf + E1.L.length = f + 1 ∧ E1.wo = (if r = f then E.wo else max E.wo ((f - r : Nat) : Int)) := by
  have hr := hn.rf
  have hrb := hn.rb
  have hf := hn.fb
  have hsl := hn.sl
  have hsf := hn.sf
  have ha0 := hn.a0
  have ha1 := hn.a1
  have hi0 := hn.i0
  have hi1 := hn.i1
  have hk0 := hn.k0
  have hk1 := hn.k1
  have hu0 := hn.u0
  have hu1 := hn.u1
  rcases h with ⟨e, rfl⟩ | ⟨e, S, hh, E2, hg, hst, rfl⟩
  · refine ⟨⟨hn.fr, ⟨by show E.Q0.I.length ≤ _; omega, by show E.Q0.A.length < _; omega, by show E.Q0.kf ≤ _; omega, by show E.Q0.uf ≤ _; omega, by show f ≤ E.Q0.A.length; omega⟩, ⟨by show E.Q1.I.length ≤ _; omega, by show E.Q1.A.length < _; omega, by show E.Q1.kf ≤ _; omega, by show E.Q1.uf ≤ _; omega, by show f ≤ E.Q1.A.length; omega⟩, by show E.sf ≤ f; omega, by show f + 1 ≤ E.sf + E.L.length; omega, hn.l, by show E.sf + E.L.length ≤ 9000; omega, hn.ok⟩, rfl, rfl, ha0, ha1, rfl, rfl, rfl, rfl, rfl, rfl, hsf, hsl, by rw [if_pos e]; rfl⟩
  · obtain ⟨hS0, hSG⟩ := hn.sv _ S hh hg
    rw [show E.sf + (r - E.sf) = r by omega] at hS0
    have ok1 : StOk { E.calm with S := S } r := ⟨hS0, ⟨by show E.Q0.I.length ≤ _; omega, by show E.Q0.A.length < _; omega, by show E.Q0.kf ≤ _; omega, by show E.Q0.uf ≤ _; omega, by show r ≤ E.Q0.A.length; omega⟩, ⟨by show E.Q1.I.length ≤ _; omega, by show E.Q1.A.length < _; omega, by show E.Q1.kf ≤ _; omega, by show E.Q1.uf ≤ _; omega, by show r ≤ E.Q1.A.length; omega⟩, by show E.sf ≤ r; omega, by show r + 1 ≤ E.sf + E.L.length; omega, hn.l, by show E.sf + E.L.length ≤ 9000; omega, hSG⟩
    obtain ⟨g1, g2⟩ := Steps.ok ok1 hst (by omega)
    rw [show r + (f - r) = f by omega] at g1 g2
    have q0 := Steps.q0 hst
    have q1 := Steps.q1 hst
    have b0 := Steps.a0 (by show r ≤ E.Q0.A.length; omega) hst
    have b1 := Steps.a1 (by show r ≤ E.Q1.A.length; omega) hst
    have hsb := Steps.sfb ok1 hst (by omega)
    have hw := Steps.wo hst
    refine ⟨⟨g1.fr, g1.q0, g1.q1, g1.sf, g1.le, g1.l, g1.lb, g1.ok⟩, q0.1, q1.1, ?_, ?_, q0.2.1, q1.2.1, q0.2.2.1, q1.2.2.1, q0.2.2.2, q1.2.2.2, ?_, g2 (by omega), ?_⟩
    · show E2.Q0.A.length = f
      rw [b0]; show max E.Q0.A.length _ = f; omega
    · show E2.Q1.A.length = f
      rw [b1]; show max E.Q1.A.length _ = f; omega
    · show E2.sf ≤ f - 63
      have : (({ E.calm with S := S } : EnS)).sf = E.sf := rfl
      omega
    · rw [if_neg (by omega)]
      show max E2.wo _ = _
      rw [hw]; rfl
end
/-- a player, behind a drop -/
def PlS.drop (Q : PlS) (below : Int) : PlS := ⟨Q.I, Q.A, Q.kf + dropK Q.kf (Q.I.length - Q.kf) (min below (Q.A.length : Nat)), Q.uf + dropK Q.uf (Q.A.length - Q.uf) below, Q.wr⟩
/-- one's own input, and a frame more -/
def EnS.adv (E1 : EnS) (c : EnC) (f : Nat) (x hh : Int) : EnS := (E1.setL c ((E1.ql c).add x)).step f hh
def EnS.drops (E : EnS) (below : Int) : EnS := { E with Q0 := E.Q0.drop below, Q1 := E.Q1.drop below }
end Go.Proofs.Ytmfagdbocidfjaa
