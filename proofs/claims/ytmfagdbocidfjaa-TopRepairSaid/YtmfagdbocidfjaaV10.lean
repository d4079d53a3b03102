import Derived.Test.YtmfagdbocidfjaaV09
/- Matrices of one's own: a column is made 0 but in one row (clear). -/
namespace Go.Proofs.Ytmfagdbocidfjaa
open Go.RowKit
/-- row i by s, and, by an element each, taken from all others -/
def elF (X : Nat → Nat → Nat) (s : Nat) (d : Nat → Nat) (i r c : Nat) : Nat := if r = i then rmul s (X i c) else X r c ^^^ rmul (d r) (rmul s (X i c))
/-- the rows ahead of k are done -/
def elK (X : Nat → Nat → Nat) (s : Nat) (d : Nat → Nat) (i k r c : Nat) : Nat := if r = i then rmul s (X i c) else if r < k then X r c ^^^ rmul (d r) (rmul s (X i c)) else X r c
set_option maxRecDepth 100000 in
theorem elK_zero (X : Nat → Nat → Nat) (s : Nat) (d : Nat → Nat) (i r c : Nat) : roF X i (fun c => rmul s (X i c)) r c = elK X s d i 0 r c := by
  unfold roF elK
  by_cases h : r = i
  · rw [if_pos h, if_pos h]
  · rw [if_neg h, if_neg h, if_neg (by omega)]
set_option maxRecDepth 100000 in
theorem elK_skip (X : Nat → Nat → Nat) (s : Nat) (d : Nat → Nat) (i r c : Nat) : elK X s d i i r c = elK X s d i (i + 1) r c := by
  unfold elK
  by_cases h : r = i
  · rw [if_pos h, if_pos h]
  · rw [if_neg h, if_neg h]
    by_cases h2 : r < i
    · rw [if_pos h2, if_pos (by omega)]
    · rw [if_neg h2, if_neg (by omega)]
set_option maxRecDepth 100000 in
theorem elK_next (X : Nat → Nat → Nat) (s : Nat) (d : Nat → Nat) (i k : Nat) (hk : k ≠ i) (r c : Nat) : mxF (elK X s d i k) k (d k) i r c = elK X s d i (k + 1) r c := by
  unfold mxF
  by_cases h : r = k
  · subst h
    rw [if_pos rfl]
    have e1 : elK X s d i r r c = X r c := by unfold elK; rw [if_neg hk, if_neg (by omega)]
    have e2 : elK X s d i r i c = rmul s (X i c) := by unfold elK; rw [if_pos rfl]
    have e3 : elK X s d i (r + 1) r c = X r c ^^^ rmul (d r) (rmul s (X i c)) := by unfold elK; rw [if_neg hk, if_pos (by omega)]
    rw [e1, e2, e3]
  · rw [if_neg h]
    unfold elK
    by_cases h1 : r = i
    · rw [if_pos h1, if_pos h1]
    · rw [if_neg h1, if_neg h1]
      by_cases h2 : r < k
      · rw [if_pos h2, if_pos (by omega)]
      · rw [if_neg h2, if_neg (by omega)]
set_option maxRecDepth 100000 in
theorem elK_end (X : Nat → Nat → Nat) (s : Nat) (d : Nat → Nat) (i R r c : Nat) (hr : r < R) : elK X s d i R r c = elF X s d i r c := by
  unfold elK elF
  rw [if_pos hr]
set_option maxRecDepth 100000 in
theorem elK_at (X : Nat → Nat → Nat) (s : Nat) (d : Nat → Nat) (i k c : Nat) (hk : k ≠ i) : elK X s d i k k c = X k c := by unfold elK; rw [if_neg hk, if_neg (by omega)]
set_option maxRecDepth 100000 in
theorem elK_bd {X : Nat → Nat → Nat} (h : Bd2 X) (s : Nat) (d : Nat → Nat) (i k : Nat) : Bd2 (elK X s d i k) := fun r c => by
  unfold elK
  split
  · exact rmul_lt _ _
  · split
    · exact xor_lt256 (h r c) (rmul_lt _ _)
    · exact h r c
/-- what but two blocks has stayed -/
structure Two (w w' : World) (g h : Nat) : Prop where
  os : w'.os = w.os
  tape : w'.tape = w.tape
  output : w'.output = w.output
  size : w.heap.size ≤ w'.heap.size
  blk : ∀ b, b < w.heap.size → b ≠ g → b ≠ h → w'.heap[b]? = w.heap[b]?
set_option maxRecDepth 100000 in
theorem Two.refl (w : World) (g h : Nat) : Two w w g h := ⟨rfl, rfl, rfl, Nat.le_refl _, fun _ _ _ _ => rfl⟩
set_option maxRecDepth 100000 in
theorem Two.below {w a b : World} {g h : Nat} (k : Two w a g h) (hb : Below a.heap.size a b) : Two w b g h :=
  ⟨hb.os.trans k.os, hb.tape.trans k.tape, hb.output.trans k.output, Nat.le_trans k.size hb.size, fun i hi h1 h2 => (hb.block i (Nat.lt_of_lt_of_le hi k.size)).trans (k.blk i hi h1 h2)⟩
set_option maxRecDepth 100000 in
theorem Two.grown {w a b : World} {g h q : Nat} (k : Two w a g h) (hb : a.grownBy b (some q)) (hq : q = g ∨ q = h) : Two w b g h :=
  ⟨hb.os.trans k.os, hb.tape.trans k.tape, hb.output.trans k.output, Nat.le_trans k.size hb.size, fun i hi h1 h2 => (hb.block i (Nat.lt_of_lt_of_le hi k.size) (fun e => by injection e with e; rcases hq with rfl | rfl <;> omega)).trans (k.blk i hi h1 h2)⟩
set_option maxRecDepth 100000 in
theorem Two.trans {w a b : World} {g h : Nat} (k : Two w a g h) (l : Two a b g h) : Two w b g h :=
  ⟨l.os.trans k.os, l.tape.trans k.tape, l.output.trans k.output, Nat.le_trans k.size l.size, fun i hi h1 h2 => (l.blk i (Nat.lt_of_lt_of_le hi k.size) h1 h2).trans (k.blk i hi h1 h2)⟩
set_option maxRecDepth 100000 in
theorem Two.to_below {B : Nat} {w0 w w' : World} {g h : Nat} (k : Two w w' g h) (hb : Below B w0 w) (hB : B ≤ w.heap.size) (hg : B ≤ g) (hh : B ≤ h) : Below B w0 w' :=
  ⟨k.os.trans hb.os, k.tape.trans hb.tape, k.output.trans hb.output, Nat.le_trans hb.size k.size, fun i hi => (k.blk i (by omega) (by omega) (by omega)).trans (hb.block i hi)⟩
set_option maxRecDepth 100000 in
theorem MRow.kept {w w' : World} {g R C q : Nat} {F : Nat → Nat → Nat} (h : MRow w g R C F) (hg : w.grownBy w' (some q)) (hne : g ≠ q) : MRow w' g R C F := h.stay (hg.block g h.lt (fun e => hne (by injection e)))
set_option maxRecDepth 100000 in
theorem IsGf.kept {w w' : World} {p q : Nat} (h : IsGf w p) (hg : w.grownBy w' (some q)) (hne : p ≠ q) : IsGf w' p := (hg.block p h.lt (fun e => hne (by injection e))).trans h
set_option maxRecDepth 100000 in
theorem blk_kept {w w' : World} {b q : Nat} (hg : w.grownBy w' (some q)) (hb : b < w.heap.size) (hne : b ≠ q) : Go.Proofs.Ytmfagdbocidfjaa.blk w' b = Go.Proofs.Ytmfagdbocidfjaa.blk w b := hg.block b hb (fun e => hne (by injection e))
def ClearPost (w : World) (g h R C C' : Nat) (F E : Nat → Nat → Nat) (i col : Nat) (e : Ending) (w' : World) : Prop :=
  e = .returned (.tuple #[]) ∧ MRow w' g R C (elF F (rinv (F i col)) (fun r => F r col) i) ∧ MRow w' h R C' (elF E (rinv (F i col)) (fun r => F r col) i) ∧ Two w w' g h
attribute [local irreducible] gexp gtbl glog rmul rinv rpow zexp mixF blk wLoad wLoadRes loadAns wStore wStoreRes storeAns Plain flF BRow MRow elK elF IsGf
attribute [local go_sem ↓] ld_m0 sto_m0
attribute [local go_sem] ld_m sto_m loadAns_some storeAns_some mx_size mx_plain blk_alloc_if blk_setRow_if blk_drew_at blk_drewN_at rowPut_some blk_setCell_if cellPut_some
set_option maxRecDepth 100000 in
set_option maxHeartbeats 8000000 in
theorem m_clear (p g h R C C' i col cap cap' : Nat) (F E : Nat → Nat → Nat) (w : World) (hp : IsGf w p) (hm : MRow w g R C F) (he : MRow w h R C' E) (hgh : g ≠ h) (hpg : p ≠ g) (hph : p ≠ h) (hF : Bd2 F) (hE : Bd2 E)
    (hi : i < R) (hcol : col < C) (hnz : F i col ≠ 0) (hR : R ≤ 255) (hC : C ≤ 255) (hC' : C' ≤ 255) (hc : R * C ≤ cap) (hc' : R * C' ≤ cap') :
    Calls Try.prog 123 #[.agg #[.int .i64 (R : Nat), .int .i64 (C : Nat), .slice (some ⟨g, 0, none⟩) (R * C) cap], .pointer (some ⟨p, 0, none⟩), .agg #[.int .i64 (R : Nat), .int .i64 (C' : Nat), .slice (some ⟨h, 0, none⟩) (R * C') cap'], .int .i64 (i : Nat), .int .i64 (col : Nat)] w (ClearPost w g h R C C' F E i col) := by
  have hgl := hm.lt
  have hhl := he.lt
  have hpl := hp.lt
  obtain ⟨h0, h1, hsz, hB⟩ := two_allocs w (.cells #[.int .i64 (R : Nat), .int .i64 (C : Nat), .slice (some ⟨g, 0, none⟩) (R * C) cap] 188) (.cells #[.int .i64 (R : Nat), .int .i64 (C' : Nat), .slice (some ⟨h, 0, none⟩) (R * C') cap'] 188)
  have hmh := Lib.hid hm
  have heh := Lib.hid he
  have hph' := Lib.hid hp
  have kr := Lib.hid (fun k W (hk : k < R) => m_row_own R C k g cap W hk hR hC hc)
  have kr' := Lib.hid (fun k W (hk : k < R) => m_row_own R C' k h cap' W hk hR hC' hc')
  have kiv := Lib.hid (fun W (hW : IsGf W p) => gf_inv p (F i col) W hW (hF i col) hnz)
  clear hm he hp
  go_enter Try.func123, Try.ntmps123
  go_upto_region 1 with (fail)
  generalize World.alloc (World.alloc w _) _ = W at *
  have hmW := Lib.hid (hmh.out.below hB hgl)
  have heW := Lib.hid (heh.out.below hB hhl)
  have hpW := Lib.hid (hph'.out.below hB hpl)
  have hx0 : w.heap.size < W.heap.size := by omega
  have hx1 : w.heap.size + 1 < W.heap.size := by omega
  have h0h := Lib.hid (blk_of h0)
  have h1h := Lib.hid (blk_of h1)
  have hBh := Lib.hid hB
  obtain ⟨N, hNe⟩ : ∃ N, R * C = N := ⟨_, rfl⟩
  obtain ⟨N', hNe'⟩ : ∃ N', R * C' = N' := ⟨_, rfl⟩
  rw [hNe] at kr h0h
  rw [hNe'] at kr' h1h
  rw [hNe, hNe']
  have hN := Lib.hid hNe
  have hN' := Lib.hid hNe'
  have b0 := h0h.out
  have k1 := Lib.hid (kr.out i W hi)
  clear h0 h1 hsz hB hNe hNe'
  go_wp2_with fail
  refine k1.out.mono ?_
  rintro e w2 ⟨rfl, hb2⟩
  have hm2 := Lib.hid (hmW.out.below hb2 hmW.out.lt)
  have he2 := Lib.hid (heW.out.below hb2 heW.out.lt)
  have hp2 := Lib.hid (hpW.out.below hb2 hpW.out.lt)
  have b02 : blk w2 w.heap.size = _ := (blk_below hb2 hx0).trans h0h.out
  have b12 : blk w2 (w.heap.size + 1) = _ := (blk_below hb2 hx1).trans h1h.out
  have hT2 := Lib.hid ((Two.refl w g h).below hBh.out |>.below hb2)
  have cx := hm2.out.cell i col hi hcol
  have hlt2 := hb2.size
  clear hb2 b0
  have kiv2 := Lib.hid (kiv.out w2 hp2.out)
  obtain ⟨x, hx⟩ : ∃ x, F i col = x := ⟨_, rfl⟩
  rw [hx] at cx kiv2
  have hxh := Lib.hid hx
  clear hx
  go_wp2_with fail
  refine kiv2.out.mono ?_
  rintro e w3 ⟨rfl, nq, rfl⟩
  have hm3 := Lib.hid (hm2.out.drewN nq)
  have he3 := Lib.hid (he2.out.drewN nq)
  have hp3 := Lib.hid (hp2.out.drewN nq)
  have hT3 := Lib.hid (hT2.out.below (below_drewN (Below.refl _ _) nq))
  have b03 := (blk_drewN_at w2 nq w.heap.size).trans b02
  have b13 := (blk_drewN_at w2 nq (w.heap.size + 1)).trans b12
  have hlt3 : W.heap.size ≤ (w2.drewN nq).heap.size := hlt2
  clear b02 b12 cx hlt2
  generalize w2.drewN nq = w3 at *
  obtain ⟨s, hse⟩ : ∃ s, rinv x = s := ⟨_, rfl⟩
  have hs256 : s < 256 := by rw [← hse]; exact rinv_lt x
  rw [hse]
  have hsh := Lib.hid hse
  clear hse kiv kiv2 k1
  go_upto_region 2 with (fail)
  refine h_begin 10 (fun y : World => blk y w.heap.size = some (.cells #[.int .i64 (R : Nat), .int .i64 (C : Nat), .slice (some ⟨g, 0, none⟩) N cap] 188 (0, 0))) rfl (by kernel_rfl) ((blk_drew_at w3 _).trans b03) ?_
  have hHeld : (fun y : World => blk y w.heap.size = some (.cells #[.int .i64 (R : Nat), .int .i64 (C : Nat), .slice (some ⟨g, 0, none⟩) N cap] 188 (0, 0))) w3.drew := (blk_drew_at w3 _).trans b03
  first
    | (refine h_run (i := 0) (v := ?_) hHeld rfl (by kernel_rfl) (by kernel_rfl) (by kernel_rfl) ?_ ?_ ?_
       rotate_left
       · rfl
       · (intro x hSx; (try dsimp only at hSx); go_simp <;> with_reducible rfl)
       simp only [Act.put, List.setIfInBounds_toArray, List.set_cons_zero, List.set_cons_succ])
    | (refine h_skip (i := 0) hHeld rfl (by kernel_rfl) (by kernel_rfl) (by kernel_rfl) ?_ ?_
       · rfl
       simp only [Act.put, List.setIfInBounds_toArray, List.set_cons_zero, List.set_cons_succ])
  first
    | (refine h_run (i := 1) (v := ?_) hHeld rfl (by kernel_rfl) (by kernel_rfl) (by kernel_rfl) ?_ ?_ ?_
       rotate_left
       · rfl
       · (intro x hSx; (try dsimp only at hSx); go_simp <;> with_reducible rfl)
       simp only [Act.put, List.setIfInBounds_toArray, List.set_cons_zero, List.set_cons_succ])
    | (refine h_skip (i := 1) hHeld rfl (by kernel_rfl) (by kernel_rfl) (by kernel_rfl) ?_ ?_
       · rfl
       simp only [Act.put, List.setIfInBounds_toArray, List.set_cons_zero, List.set_cons_succ])
  first
    | (refine h_run (i := 3) (v := ?_) hHeld rfl (by kernel_rfl) (by kernel_rfl) (by kernel_rfl) ?_ ?_ ?_
       rotate_left
       · rfl
       · (intro x hSx; (try dsimp only at hSx); go_simp <;> with_reducible rfl)
       simp only [Act.put, List.setIfInBounds_toArray, List.set_cons_zero, List.set_cons_succ])
    | (refine h_skip (i := 3) hHeld rfl (by kernel_rfl) (by kernel_rfl) (by kernel_rfl) ?_ ?_
       · rfl
       simp only [Act.put, List.setIfInBounds_toArray, List.set_cons_zero, List.set_cons_succ])
  first
    | (refine h_run (i := 4) (v := ?_) hHeld rfl (by kernel_rfl) (by kernel_rfl) (by kernel_rfl) ?_ ?_ ?_
       rotate_left
       · rfl
       · (intro x hSx; (try dsimp only at hSx); go_simp <;> with_reducible rfl)
       simp only [Act.put, List.setIfInBounds_toArray, List.set_cons_zero, List.set_cons_succ])
    | (refine h_skip (i := 4) hHeld rfl (by kernel_rfl) (by kernel_rfl) (by kernel_rfl) ?_ ?_
       · rfl
       simp only [Act.put, List.setIfInBounds_toArray, List.set_cons_zero, List.set_cons_succ])
  first
    | (refine h_run (i := 5) (v := ?_) hHeld rfl (by kernel_rfl) (by kernel_rfl) (by kernel_rfl) ?_ ?_ ?_
       rotate_left
       · rfl
       · (intro x hSx; (try dsimp only at hSx); go_simp <;> with_reducible rfl)
       simp only [Act.put, List.setIfInBounds_toArray, List.set_cons_zero, List.set_cons_succ])
    | (refine h_skip (i := 5) hHeld rfl (by kernel_rfl) (by kernel_rfl) (by kernel_rfl) ?_ ?_
       · rfl
       simp only [Act.put, List.setIfInBounds_toArray, List.set_cons_zero, List.set_cons_succ])
  first
    | (refine h_run (i := 6) (v := ?_) hHeld rfl (by kernel_rfl) (by kernel_rfl) (by kernel_rfl) ?_ ?_ ?_
       rotate_left
       · rfl
       · (intro x hSx; (try dsimp only at hSx); go_simp <;> with_reducible rfl)
       simp only [Act.put, List.setIfInBounds_toArray, List.set_cons_zero, List.set_cons_succ])
    | (refine h_skip (i := 6) hHeld rfl (by kernel_rfl) (by kernel_rfl) (by kernel_rfl) ?_ ?_
       · rfl
       simp only [Act.put, List.setIfInBounds_toArray, List.set_cons_zero, List.set_cons_succ])
  clear hHeld
  refine h_call (i := 2) (fun y : World => blk y w.heap.size = some (.cells #[.int .i64 (R : Nat), .int .i64 (C : Nat), .slice (some ⟨g, 0, none⟩) N cap] 188 (0, 0))) (fun _ h => h) (kr.out i w3.drew hi) rfl (by kernel_rfl) rfl ?_ ?_
  · go_simp <;> with_reducible rfl
  rintro e y0 ⟨rfl, hc0⟩
  have hTy0 : Below w3.heap.size w3 y0 := (below_drewN (Below.refl w3.heap.size w3) 1).trans hc0
  refine ⟨_, rfl, (blk_below hTy0 (show w.heap.size < w3.heap.size by omega)).trans b03, ?_⟩
  refine h_call (i := 7) (fun y : World => blk y w.heap.size = some (.cells #[.int .i64 (R : Nat), .int .i64 (C : Nat), .slice (some ⟨g, 0, none⟩) N cap] 188 (0, 0))) (fun _ h => h) (kr.out i y0 hi) rfl (by kernel_rfl) rfl ?_ ?_
  · go_simp <;> with_reducible rfl
  rintro e y ⟨rfl, hc1⟩
  have hTyw : Below w3.heap.size w3 y := below_step hTy0 hTy0.size hc1
  refine ⟨_, rfl, (blk_below hTyw (show w.heap.size < w3.heap.size by omega)).trans b03, ?_⟩
  have hmy := Lib.hid (hm3.out.below hTyw hm3.out.lt)
  have hey := Lib.hid (he3.out.below hTyw he3.out.lt)
  have hpy := Lib.hid (hp3.out.below hTyw hp3.out.lt)
  have hby0 := Lib.hid ((blk_below hTyw (show w.heap.size < w3.heap.size by omega)).trans b03)
  have hby1 := Lib.hid ((blk_below hTyw (show w.heap.size + 1 < w3.heap.size by omega)).trans b13)
  have hTwy := Lib.hid (hT3.out.below hTyw)
  have hsy := hTyw.size
  clear hTy0 hc0 hc1 hTyw
  refine h_call (i := 8) (fun y : World => blk y w.heap.size = some (.cells #[.int .i64 (R : Nat), .int .i64 (C : Nat), .slice (some ⟨g, 0, none⟩) N cap] 188 (0, 0))) (fun _ h => h) (m_scale p s (some ⟨g, i * C, none⟩) C C (F i) y hpy.out hs256 (hmy.out.part i hi) (hF i) (by omega)) rfl (by kernel_rfl) rfl ?_ ?_
  · go_simp <;> with_reducible rfl
  rintro e y2 ⟨g9, c9, rfl, hg9, hr9, hb9⟩
  have hby0' := Lib.hid ((blk_below hb9 (show w.heap.size < y.heap.size by omega)).trans hby0.out)
  have hby1' := Lib.hid ((blk_below hb9 (show w.heap.size + 1 < y.heap.size by omega)).trans hby1.out)
  refine ⟨_, rfl, hby0'.out, ?_⟩
  have hm9 := Lib.hid (hmy.out.below hb9 hmy.out.lt)
  have he9 := Lib.hid (hey.out.below hb9 hey.out.lt)
  have hp9 := Lib.hid (hpy.out.below hb9 hpy.out.lt)
  have hT9 := Lib.hid (hTwy.out.below hb9)
  have hs9 := hb9.size
  obtain ⟨y3, hrun, hm10, hgr⟩ := run_copy_mrow y2 g R C i C c9 F (some ⟨g9, 0, none⟩) (fun c => rmul s (F i c)) 3 hm9.out hi hr9.by
  have hb010 := Lib.hid ((blk_kept hgr (show w.heap.size < y2.heap.size by omega) (by omega)).trans hby0'.out)
  have hb110 := Lib.hid ((blk_kept hgr (show w.heap.size + 1 < y2.heap.size by omega) (by omega)).trans hby1'.out)
  refine h_value (i := 9) (v := goInt C) (w' := y3) (fun y : World => blk y w.heap.size = some (.cells #[.int .i64 (R : Nat), .int .i64 (C : Nat), .slice (some ⟨g, 0, none⟩) N cap] 188 (0, 0))) (fun _ h => h) rfl (by kernel_rfl) rfl ?_ hb010.out ?_
  · exact exec_copy (.tmp 27) (.tmp 33) _ _ rfl rfl rfl hrun
  refine h_done (by kernel_rfl) ?_
  have fam := Lib.hid (hm10.congr (fun r c _ _ => elK_zero F s (fun r => F r col) i r c))
  have fao := Lib.hid (he9.out.kept hgr (fun e => hgh e.symm))
  have fap := Lib.hid (hp9.out.kept hgr hpg)
  have faT := Lib.hid (hT9.out.grown hgr (.inl rfl))
  have fas : W.heap.size ≤ y3.heap.size := by have := hgr.size; omega
  have fab0 := hb010
  have fab1 := hb110
  clear hm10 hgr hrun hr9 hb9 hg9 hmy hey hpy hby0 hby1 hTwy hby0' hby1' hm9 he9 hp9 hT9 hs9 hsy hb010 hb110
  clear hm3 he3 hp3 b03 b13 hT3 hlt3
  go_upto_region 3 with (fail)
  refine h_begin 10 (fun y : World => blk y (w.heap.size + 1) = some (.cells #[.int .i64 (R : Nat), .int .i64 (C' : Nat), .slice (some ⟨h, 0, none⟩) N' cap'] 188 (0, 0))) rfl (by kernel_rfl) ((blk_drew_at y3 _).trans fab1.out) ?_
  have hHeld : (fun y : World => blk y (w.heap.size + 1) = some (.cells #[.int .i64 (R : Nat), .int .i64 (C' : Nat), .slice (some ⟨h, 0, none⟩) N' cap'] 188 (0, 0))) y3.drew := (blk_drew_at y3 _).trans fab1.out
  first
    | (refine h_run (i := 0) (v := ?_) hHeld rfl (by kernel_rfl) (by kernel_rfl) (by kernel_rfl) ?_ ?_ ?_
       rotate_left
       · rfl
       · (intro x hSx; (try dsimp only at hSx); go_simp <;> with_reducible rfl)
       simp only [Act.put, List.setIfInBounds_toArray, List.set_cons_zero, List.set_cons_succ])
    | (refine h_skip (i := 0) hHeld rfl (by kernel_rfl) (by kernel_rfl) (by kernel_rfl) ?_ ?_
       · rfl
       simp only [Act.put, List.setIfInBounds_toArray, List.set_cons_zero, List.set_cons_succ])
  first
    | (refine h_run (i := 1) (v := ?_) hHeld rfl (by kernel_rfl) (by kernel_rfl) (by kernel_rfl) ?_ ?_ ?_
       rotate_left
       · rfl
       · (intro x hSx; (try dsimp only at hSx); go_simp <;> with_reducible rfl)
       simp only [Act.put, List.setIfInBounds_toArray, List.set_cons_zero, List.set_cons_succ])
    | (refine h_skip (i := 1) hHeld rfl (by kernel_rfl) (by kernel_rfl) (by kernel_rfl) ?_ ?_
       · rfl
       simp only [Act.put, List.setIfInBounds_toArray, List.set_cons_zero, List.set_cons_succ])
  first
    | (refine h_run (i := 3) (v := ?_) hHeld rfl (by kernel_rfl) (by kernel_rfl) (by kernel_rfl) ?_ ?_ ?_
       rotate_left
       · rfl
       · (intro x hSx; (try dsimp only at hSx); go_simp <;> with_reducible rfl)
       simp only [Act.put, List.setIfInBounds_toArray, List.set_cons_zero, List.set_cons_succ])
    | (refine h_skip (i := 3) hHeld rfl (by kernel_rfl) (by kernel_rfl) (by kernel_rfl) ?_ ?_
       · rfl
       simp only [Act.put, List.setIfInBounds_toArray, List.set_cons_zero, List.set_cons_succ])
  first
    | (refine h_run (i := 4) (v := ?_) hHeld rfl (by kernel_rfl) (by kernel_rfl) (by kernel_rfl) ?_ ?_ ?_
       rotate_left
       · rfl
       · (intro x hSx; (try dsimp only at hSx); go_simp <;> with_reducible rfl)
       simp only [Act.put, List.setIfInBounds_toArray, List.set_cons_zero, List.set_cons_succ])
    | (refine h_skip (i := 4) hHeld rfl (by kernel_rfl) (by kernel_rfl) (by kernel_rfl) ?_ ?_
       · rfl
       simp only [Act.put, List.setIfInBounds_toArray, List.set_cons_zero, List.set_cons_succ])
  first
    | (refine h_run (i := 5) (v := ?_) hHeld rfl (by kernel_rfl) (by kernel_rfl) (by kernel_rfl) ?_ ?_ ?_
       rotate_left
       · rfl
       · (intro x hSx; (try dsimp only at hSx); go_simp <;> with_reducible rfl)
       simp only [Act.put, List.setIfInBounds_toArray, List.set_cons_zero, List.set_cons_succ])
    | (refine h_skip (i := 5) hHeld rfl (by kernel_rfl) (by kernel_rfl) (by kernel_rfl) ?_ ?_
       · rfl
       simp only [Act.put, List.setIfInBounds_toArray, List.set_cons_zero, List.set_cons_succ])
  first
    | (refine h_run (i := 6) (v := ?_) hHeld rfl (by kernel_rfl) (by kernel_rfl) (by kernel_rfl) ?_ ?_ ?_
       rotate_left
       · rfl
       · (intro x hSx; (try dsimp only at hSx); go_simp <;> with_reducible rfl)
       simp only [Act.put, List.setIfInBounds_toArray, List.set_cons_zero, List.set_cons_succ])
    | (refine h_skip (i := 6) hHeld rfl (by kernel_rfl) (by kernel_rfl) (by kernel_rfl) ?_ ?_
       · rfl
       simp only [Act.put, List.setIfInBounds_toArray, List.set_cons_zero, List.set_cons_succ])
  clear hHeld
  refine h_call (i := 2) (fun y : World => blk y (w.heap.size + 1) = some (.cells #[.int .i64 (R : Nat), .int .i64 (C' : Nat), .slice (some ⟨h, 0, none⟩) N' cap'] 188 (0, 0))) (fun _ h => h) (kr'.out i y3.drew hi) rfl (by kernel_rfl) rfl ?_ ?_
  · go_simp <;> with_reducible rfl
  rintro e y0 ⟨rfl, hc0⟩
  have hTy0 : Below y3.heap.size y3 y0 := (below_drewN (Below.refl y3.heap.size y3) 1).trans hc0
  refine ⟨_, rfl, (blk_below hTy0 (show (w.heap.size + 1) < y3.heap.size by omega)).trans fab1.out, ?_⟩
  refine h_call (i := 7) (fun y : World => blk y (w.heap.size + 1) = some (.cells #[.int .i64 (R : Nat), .int .i64 (C' : Nat), .slice (some ⟨h, 0, none⟩) N' cap'] 188 (0, 0))) (fun _ h => h) (kr'.out i y0 hi) rfl (by kernel_rfl) rfl ?_ ?_
  · go_simp <;> with_reducible rfl
  rintro e y ⟨rfl, hc1⟩
  have hTyw : Below y3.heap.size y3 y := below_step hTy0 hTy0.size hc1
  refine ⟨_, rfl, (blk_below hTyw (show (w.heap.size + 1) < y3.heap.size by omega)).trans fab1.out, ?_⟩
  have hmy := Lib.hid (fam.out.below hTyw fam.out.lt)
  have hey := Lib.hid (fao.out.below hTyw fao.out.lt)
  have hpy := Lib.hid (fap.out.below hTyw fap.out.lt)
  have hby0 := Lib.hid ((blk_below hTyw (show w.heap.size < y3.heap.size by omega)).trans fab0.out)
  have hby1 := Lib.hid ((blk_below hTyw (show w.heap.size + 1 < y3.heap.size by omega)).trans fab1.out)
  have hTwy := Lib.hid (faT.out.below hTyw)
  have hsy := hTyw.size
  clear hTy0 hc0 hc1 hTyw
  refine h_call (i := 8) (fun y : World => blk y (w.heap.size + 1) = some (.cells #[.int .i64 (R : Nat), .int .i64 (C' : Nat), .slice (some ⟨h, 0, none⟩) N' cap'] 188 (0, 0))) (fun _ h => h) (m_scale p s (some ⟨h, i * C', none⟩) C' C' (E i) y hpy.out hs256 (hey.out.part i hi) (hE i) (by omega)) rfl (by kernel_rfl) rfl ?_ ?_
  · go_simp <;> with_reducible rfl
  rintro e y2 ⟨g9, c9, rfl, hg9, hr9, hb9⟩
  have hby0' := Lib.hid ((blk_below hb9 (show w.heap.size < y.heap.size by omega)).trans hby0.out)
  have hby1' := Lib.hid ((blk_below hb9 (show w.heap.size + 1 < y.heap.size by omega)).trans hby1.out)
  refine ⟨_, rfl, hby1'.out, ?_⟩
  have hm9 := Lib.hid (hmy.out.below hb9 hmy.out.lt)
  have he9 := Lib.hid (hey.out.below hb9 hey.out.lt)
  have hp9 := Lib.hid (hpy.out.below hb9 hpy.out.lt)
  have hT9 := Lib.hid (hTwy.out.below hb9)
  have hs9 := hb9.size
  obtain ⟨z3, hrun, hm10, hgr⟩ := run_copy_mrow y2 h R C' i C' c9 E (some ⟨g9, 0, none⟩) (fun c => rmul s (E i c)) 3 he9.out hi hr9.by
  have hb010 := Lib.hid ((blk_kept hgr (show w.heap.size < y2.heap.size by omega) (by omega)).trans hby0'.out)
  have hb110 := Lib.hid ((blk_kept hgr (show w.heap.size + 1 < y2.heap.size by omega) (by omega)).trans hby1'.out)
  refine h_value (i := 9) (v := goInt C') (w' := z3) (fun y : World => blk y (w.heap.size + 1) = some (.cells #[.int .i64 (R : Nat), .int .i64 (C' : Nat), .slice (some ⟨h, 0, none⟩) N' cap'] 188 (0, 0))) (fun _ h => h) rfl (by kernel_rfl) rfl ?_ hb110.out ?_
  · exact exec_copy (.tmp 37) (.tmp 43) _ _ rfl rfl rfl hrun
  refine h_done (by kernel_rfl) ?_
  have fdm := Lib.hid (hm10.congr (fun r c _ _ => elK_zero E s (fun r => F r col) i r c))
  have fdo := Lib.hid (hm9.out.kept hgr hgh)
  have fdp := Lib.hid (hp9.out.kept hgr hph)
  have fdT := Lib.hid (hT9.out.grown hgr (.inr rfl))
  have fds : W.heap.size ≤ z3.heap.size := by have := hgr.size; omega
  have fdb0 := hb010
  have fdb1 := hb110
  clear hm10 hgr hrun hr9 hb9 hg9 hmy hey hpy hby0 hby1 hTwy hby0' hby1' hm9 he9 hp9 hT9 hs9 hsy hb010 hb110
  clear fam fao fap fab0 fab1 faT fas
  have c0 : z3.cell? ⟨w.heap.size, 0, none⟩ = some (.int .i64 (R : Nat)) := (cell_of_block (blk_heap fdb0.out)).trans rfl
  go_upto_region 5 with (fail)
  go_loopw [47] (fun iv wr => ∃ k : Nat, k ≤ R ∧ iv = .int .i64 (k : Nat) ∧ Hid (MRow wr g R C (elK F s (fun r => F r col) i k)) ∧ Hid (MRow wr h R C' (elK E s (fun r => F r col) i k)) ∧ Hid (IsGf wr p) ∧ Hid (blk wr w.heap.size = some (.cells #[.int .i64 (R : Nat), .int .i64 (C : Nat), .slice (some ⟨g, 0, none⟩) N cap] 188 (0, 0))) ∧ Hid (blk wr (w.heap.size + 1) = some (.cells #[.int .i64 (R : Nat), .int .i64 (C' : Nat), .slice (some ⟨h, 0, none⟩) N' cap'] 188 (0, 0))) ∧ Hid (Two w wr g h) ∧ Hid (W.heap.size ≤ wr.heap.size)) (fun iv _ => R - (intOf iv).toNat)
  case atStart => exact ⟨0, Nat.zero_le _, rfl, fdo, fdm, fdp, fdb0, fdb1, fdT, hide fds⟩
  case round =>
    obtain ⟨k, hk, rfl, vm, ve, vp, vb0, vb1, vT, vs⟩ := hrel
    clear fdo fdm fdp fdb0 fdb1 fdT fds c0
    have hws := vs.out
    by_cases hkR : k < R
    · have i1 : (k : Int) < (R : Int) := by omega
      by_cases hki : k = i
      · subst hki
        have t1 := beq_cast_t k
        have vm2 := Lib.hid (vm.out.congr (fun r c _ _ => elK_skip F s (fun r => F r col) k r c))
        have ve2 := Lib.hid (ve.out.congr (fun r c _ _ => elK_skip E s (fun r => F r col) k r c))
        go_wp2_with fail
        go_roundw
        case rel => exact ⟨k + 1, by omega, by go_num, vm2, ve2, vp, vb0, vb1, vT, vs⟩
        case measure => simp [intOf]; omega
      have t1 := beq_cast_f k i hki
      have b0 := vb0.out
      have kk := Lib.hid (kr.out k wr hkR)
      have vmb := Lib.hid (elK_bd hF s (fun r => F r col) i k)
      have veb := Lib.hid (elK_bd hE s (fun r => F r col) i k)
      have hdv : F k col < 256 := hF k col
      have hcx : Hid (elK F s (fun r => F r col) i k k col = F k col) := hide (elK_at F s (fun r => F r col) i k col hki)
      have hnm := Lib.hid (fun r c => elK_next F s (fun r => F r col) i k hki r c)
      have hne := Lib.hid (fun r c => elK_next E s (fun r => F r col) i k hki r c)
      generalize elK F s (fun r => F r col) i k = Fk at *
      generalize elK E s (fun r => F r col) i k = Ek at *
      go_wp2_with fail
      refine kk.out.mono ?_
      rintro e w5 ⟨rfl, hb5⟩
      have um := Lib.hid (vm.out.below hb5 vm.out.lt)
      have ue := Lib.hid (ve.out.below hb5 ve.out.lt)
      have up := Lib.hid (vp.out.below hb5 vp.out.lt)
      have ub0 := Lib.hid ((blk_below hb5 (show w.heap.size < wr.heap.size by omega)).trans vb0.out)
      have ub1 := Lib.hid ((blk_below hb5 (show w.heap.size + 1 < wr.heap.size by omega)).trans vb1.out)
      have uT := Lib.hid (vT.out.below hb5)
      have us := hb5.size
      have cx := um.out.cell k col hkR hcol
      rw [hcx.out] at cx
      clear hb5 b0 hcx
      generalize F k col = dv at *
      go_upto_region 9 with (fail)
      clear cx vm ve vp vb0 vb1 vT vs
      refine h_begin 9 (fun y : World => blk y w.heap.size = some (.cells #[.int .i64 (R : Nat), .int .i64 (C : Nat), .slice (some ⟨g, 0, none⟩) N cap] 188 (0, 0))) rfl (by kernel_rfl) ((blk_drew_at w5 _).trans ub0.out) ?_
      have hHeld : (fun y : World => blk y w.heap.size = some (.cells #[.int .i64 (R : Nat), .int .i64 (C : Nat), .slice (some ⟨g, 0, none⟩) N cap] 188 (0, 0))) w5.drew := (blk_drew_at w5 _).trans ub0.out
      first
        | (refine h_run (i := 0) (v := ?_) hHeld rfl (by kernel_rfl) (by kernel_rfl) (by kernel_rfl) ?_ ?_ ?_
           rotate_left
           · rfl
           · (intro x hSx; (try dsimp only at hSx); go_simp <;> with_reducible rfl)
           simp only [Act.put, List.setIfInBounds_toArray, List.set_cons_zero, List.set_cons_succ])
        | (refine h_skip (i := 0) hHeld rfl (by kernel_rfl) (by kernel_rfl) (by kernel_rfl) ?_ ?_
           · rfl
           simp only [Act.put, List.setIfInBounds_toArray, List.set_cons_zero, List.set_cons_succ])
      first
        | (refine h_run (i := 1) (v := ?_) hHeld rfl (by kernel_rfl) (by kernel_rfl) (by kernel_rfl) ?_ ?_ ?_
           rotate_left
           · rfl
           · (intro x hSx; (try dsimp only at hSx); go_simp <;> with_reducible rfl)
           simp only [Act.put, List.setIfInBounds_toArray, List.set_cons_zero, List.set_cons_succ])
        | (refine h_skip (i := 1) hHeld rfl (by kernel_rfl) (by kernel_rfl) (by kernel_rfl) ?_ ?_
           · rfl
           simp only [Act.put, List.setIfInBounds_toArray, List.set_cons_zero, List.set_cons_succ])
      first
        | (refine h_run (i := 2) (v := ?_) hHeld rfl (by kernel_rfl) (by kernel_rfl) (by kernel_rfl) ?_ ?_ ?_
           rotate_left
           · rfl
           · (intro x hSx; (try dsimp only at hSx); go_simp <;> with_reducible rfl)
           simp only [Act.put, List.setIfInBounds_toArray, List.set_cons_zero, List.set_cons_succ])
        | (refine h_skip (i := 2) hHeld rfl (by kernel_rfl) (by kernel_rfl) (by kernel_rfl) ?_ ?_
           · rfl
           simp only [Act.put, List.setIfInBounds_toArray, List.set_cons_zero, List.set_cons_succ])
      first
        | (refine h_run (i := 4) (v := ?_) hHeld rfl (by kernel_rfl) (by kernel_rfl) (by kernel_rfl) ?_ ?_ ?_
           rotate_left
           · rfl
           · (intro x hSx; (try dsimp only at hSx); go_simp <;> with_reducible rfl)
           simp only [Act.put, List.setIfInBounds_toArray, List.set_cons_zero, List.set_cons_succ])
        | (refine h_skip (i := 4) hHeld rfl (by kernel_rfl) (by kernel_rfl) (by kernel_rfl) ?_ ?_
           · rfl
           simp only [Act.put, List.setIfInBounds_toArray, List.set_cons_zero, List.set_cons_succ])
      first
        | (refine h_run (i := 5) (v := ?_) hHeld rfl (by kernel_rfl) (by kernel_rfl) (by kernel_rfl) ?_ ?_ ?_
           rotate_left
           · rfl
           · (intro x hSx; (try dsimp only at hSx); go_simp <;> with_reducible rfl)
           simp only [Act.put, List.setIfInBounds_toArray, List.set_cons_zero, List.set_cons_succ])
        | (refine h_skip (i := 5) hHeld rfl (by kernel_rfl) (by kernel_rfl) (by kernel_rfl) ?_ ?_
           · rfl
           simp only [Act.put, List.setIfInBounds_toArray, List.set_cons_zero, List.set_cons_succ])
      first
        | (refine h_run (i := 6) (v := ?_) hHeld rfl (by kernel_rfl) (by kernel_rfl) (by kernel_rfl) ?_ ?_ ?_
           rotate_left
           · rfl
           · (intro x hSx; (try dsimp only at hSx); go_simp <;> with_reducible rfl)
           simp only [Act.put, List.setIfInBounds_toArray, List.set_cons_zero, List.set_cons_succ])
        | (refine h_skip (i := 6) hHeld rfl (by kernel_rfl) (by kernel_rfl) (by kernel_rfl) ?_ ?_
           · rfl
           simp only [Act.put, List.setIfInBounds_toArray, List.set_cons_zero, List.set_cons_succ])
      clear hHeld
      refine h_call (i := 3) (fun y : World => blk y w.heap.size = some (.cells #[.int .i64 (R : Nat), .int .i64 (C : Nat), .slice (some ⟨g, 0, none⟩) N cap] 188 (0, 0))) (fun _ h => h) (kr.out k w5.drew hkR) rfl (by kernel_rfl) rfl ?_ ?_
      · go_simp <;> with_reducible rfl
      rintro e y0 ⟨rfl, hc0⟩
      have hTy0 : Below w5.heap.size w5 y0 := (below_drewN (Below.refl w5.heap.size w5) 1).trans hc0
      refine ⟨_, rfl, (blk_below hTy0 (show w.heap.size < w5.heap.size by omega)).trans ub0.out, ?_⟩
      refine h_call (i := 7) (fun y : World => blk y w.heap.size = some (.cells #[.int .i64 (R : Nat), .int .i64 (C : Nat), .slice (some ⟨g, 0, none⟩) N cap] 188 (0, 0))) (fun _ h => h) (kr.out i y0 hi) rfl (by kernel_rfl) rfl ?_ ?_
      · go_simp <;> with_reducible rfl
      rintro e y ⟨rfl, hc1⟩
      have hTyw : Below w5.heap.size w5 y := below_step hTy0 hTy0.size hc1
      refine ⟨_, rfl, (blk_below hTyw (show w.heap.size < w5.heap.size by omega)).trans ub0.out, ?_⟩
      have hmy := Lib.hid (um.out.below hTyw um.out.lt)
      have hey := Lib.hid (ue.out.below hTyw ue.out.lt)
      have hpy := Lib.hid (up.out.below hTyw up.out.lt)
      have hby0 := Lib.hid ((blk_below hTyw (show w.heap.size < w5.heap.size by omega)).trans ub0.out)
      have hby1 := Lib.hid ((blk_below hTyw (show w.heap.size + 1 < w5.heap.size by omega)).trans ub1.out)
      have hTwy := Lib.hid (uT.out.below hTyw)
      have hsy := hTyw.size
      clear hTy0 hc0 hc1 hTyw
      refine h_call (i := 8) (fun y : World => blk y w.heap.size = some (.cells #[.int .i64 (R : Nat), .int .i64 (C : Nat), .slice (some ⟨g, 0, none⟩) N cap] 188 (0, 0))) (fun _ h => h) (m_mixrow p g R C k i dv _ y hpy.out hpg hmy.out vmb.out hkR hi hki hdv hR hC) rfl (by kernel_rfl) rfl ?_ ?_
      · go_simp <;> with_reducible rfl
      rintro e z ⟨rfl, hmz, hgr⟩
      have rb0 := Lib.hid ((blk_kept hgr (show w.heap.size < y.heap.size by omega) (by omega)).trans hby0.out)
      have rb1 := Lib.hid ((blk_kept hgr (show w.heap.size + 1 < y.heap.size by omega) (by omega)).trans hby1.out)
      refine ⟨_, rfl, rb0.out, ?_⟩
      refine h_done (by kernel_rfl) ?_
      have rm := Lib.hid hmz
      have ro := Lib.hid (hey.out.kept hgr (fun e => hgh e.symm))
      have rp := Lib.hid (hpy.out.kept hgr hpg)
      have rT := Lib.hid (hTwy.out.grown hgr (.inl rfl))
      have rs : W.heap.size ≤ z.heap.size := by have := hgr.size; omega
      clear hmz hgr hmy hey hpy hby0 hby1 hTwy hsy
      clear um ue up ub0 ub1 uT us
      go_upto_region 10 with (fail)
      refine h_begin 9 (fun y : World => blk y (w.heap.size + 1) = some (.cells #[.int .i64 (R : Nat), .int .i64 (C' : Nat), .slice (some ⟨h, 0, none⟩) N' cap'] 188 (0, 0))) rfl (by kernel_rfl) ((blk_drew_at z _).trans rb1.out) ?_
      have hHeld : (fun y : World => blk y (w.heap.size + 1) = some (.cells #[.int .i64 (R : Nat), .int .i64 (C' : Nat), .slice (some ⟨h, 0, none⟩) N' cap'] 188 (0, 0))) z.drew := (blk_drew_at z _).trans rb1.out
      first
        | (refine h_run (i := 0) (v := ?_) hHeld rfl (by kernel_rfl) (by kernel_rfl) (by kernel_rfl) ?_ ?_ ?_
           rotate_left
           · rfl
           · (intro x hSx; (try dsimp only at hSx); go_simp <;> with_reducible rfl)
           simp only [Act.put, List.setIfInBounds_toArray, List.set_cons_zero, List.set_cons_succ])
        | (refine h_skip (i := 0) hHeld rfl (by kernel_rfl) (by kernel_rfl) (by kernel_rfl) ?_ ?_
           · rfl
           simp only [Act.put, List.setIfInBounds_toArray, List.set_cons_zero, List.set_cons_succ])
      first
        | (refine h_run (i := 1) (v := ?_) hHeld rfl (by kernel_rfl) (by kernel_rfl) (by kernel_rfl) ?_ ?_ ?_
           rotate_left
           · rfl
           · (intro x hSx; (try dsimp only at hSx); go_simp <;> with_reducible rfl)
           simp only [Act.put, List.setIfInBounds_toArray, List.set_cons_zero, List.set_cons_succ])
        | (refine h_skip (i := 1) hHeld rfl (by kernel_rfl) (by kernel_rfl) (by kernel_rfl) ?_ ?_
           · rfl
           simp only [Act.put, List.setIfInBounds_toArray, List.set_cons_zero, List.set_cons_succ])
      first
        | (refine h_run (i := 2) (v := ?_) hHeld rfl (by kernel_rfl) (by kernel_rfl) (by kernel_rfl) ?_ ?_ ?_
           rotate_left
           · rfl
           · (intro x hSx; (try dsimp only at hSx); go_simp <;> with_reducible rfl)
           simp only [Act.put, List.setIfInBounds_toArray, List.set_cons_zero, List.set_cons_succ])
        | (refine h_skip (i := 2) hHeld rfl (by kernel_rfl) (by kernel_rfl) (by kernel_rfl) ?_ ?_
           · rfl
           simp only [Act.put, List.setIfInBounds_toArray, List.set_cons_zero, List.set_cons_succ])
      first
        | (refine h_run (i := 4) (v := ?_) hHeld rfl (by kernel_rfl) (by kernel_rfl) (by kernel_rfl) ?_ ?_ ?_
           rotate_left
           · rfl
           · (intro x hSx; (try dsimp only at hSx); go_simp <;> with_reducible rfl)
           simp only [Act.put, List.setIfInBounds_toArray, List.set_cons_zero, List.set_cons_succ])
        | (refine h_skip (i := 4) hHeld rfl (by kernel_rfl) (by kernel_rfl) (by kernel_rfl) ?_ ?_
           · rfl
           simp only [Act.put, List.setIfInBounds_toArray, List.set_cons_zero, List.set_cons_succ])
      first
        | (refine h_run (i := 5) (v := ?_) hHeld rfl (by kernel_rfl) (by kernel_rfl) (by kernel_rfl) ?_ ?_ ?_
           rotate_left
           · rfl
           · (intro x hSx; (try dsimp only at hSx); go_simp <;> with_reducible rfl)
           simp only [Act.put, List.setIfInBounds_toArray, List.set_cons_zero, List.set_cons_succ])
        | (refine h_skip (i := 5) hHeld rfl (by kernel_rfl) (by kernel_rfl) (by kernel_rfl) ?_ ?_
           · rfl
           simp only [Act.put, List.setIfInBounds_toArray, List.set_cons_zero, List.set_cons_succ])
      first
        | (refine h_run (i := 6) (v := ?_) hHeld rfl (by kernel_rfl) (by kernel_rfl) (by kernel_rfl) ?_ ?_ ?_
           rotate_left
           · rfl
           · (intro x hSx; (try dsimp only at hSx); go_simp <;> with_reducible rfl)
           simp only [Act.put, List.setIfInBounds_toArray, List.set_cons_zero, List.set_cons_succ])
        | (refine h_skip (i := 6) hHeld rfl (by kernel_rfl) (by kernel_rfl) (by kernel_rfl) ?_ ?_
           · rfl
           simp only [Act.put, List.setIfInBounds_toArray, List.set_cons_zero, List.set_cons_succ])
      clear hHeld
      refine h_call (i := 3) (fun y : World => blk y (w.heap.size + 1) = some (.cells #[.int .i64 (R : Nat), .int .i64 (C' : Nat), .slice (some ⟨h, 0, none⟩) N' cap'] 188 (0, 0))) (fun _ h => h) (kr'.out k z.drew hkR) rfl (by kernel_rfl) rfl ?_ ?_
      · go_simp <;> with_reducible rfl
      rintro e y0 ⟨rfl, hc0⟩
      have hTy0 : Below z.heap.size z y0 := (below_drewN (Below.refl z.heap.size z) 1).trans hc0
      refine ⟨_, rfl, (blk_below hTy0 (show (w.heap.size + 1) < z.heap.size by omega)).trans rb1.out, ?_⟩
      refine h_call (i := 7) (fun y : World => blk y (w.heap.size + 1) = some (.cells #[.int .i64 (R : Nat), .int .i64 (C' : Nat), .slice (some ⟨h, 0, none⟩) N' cap'] 188 (0, 0))) (fun _ h => h) (kr'.out i y0 hi) rfl (by kernel_rfl) rfl ?_ ?_
      · go_simp <;> with_reducible rfl
      rintro e y ⟨rfl, hc1⟩
      have hTyw : Below z.heap.size z y := below_step hTy0 hTy0.size hc1
      refine ⟨_, rfl, (blk_below hTyw (show (w.heap.size + 1) < z.heap.size by omega)).trans rb1.out, ?_⟩
      have hmy := Lib.hid (rm.out.below hTyw rm.out.lt)
      have hey := Lib.hid (ro.out.below hTyw ro.out.lt)
      have hpy := Lib.hid (rp.out.below hTyw rp.out.lt)
      have hby0 := Lib.hid ((blk_below hTyw (show w.heap.size < z.heap.size by omega)).trans rb0.out)
      have hby1 := Lib.hid ((blk_below hTyw (show w.heap.size + 1 < z.heap.size by omega)).trans rb1.out)
      have hTwy := Lib.hid (rT.out.below hTyw)
      have hsy := hTyw.size
      clear hTy0 hc0 hc1 hTyw
      refine h_call (i := 8) (fun y : World => blk y (w.heap.size + 1) = some (.cells #[.int .i64 (R : Nat), .int .i64 (C' : Nat), .slice (some ⟨h, 0, none⟩) N' cap'] 188 (0, 0))) (fun _ h => h) (m_mixrow p h R C' k i dv _ y hpy.out hph hey.out veb.out hkR hi hki hdv hR hC') rfl (by kernel_rfl) rfl ?_ ?_
      · go_simp <;> with_reducible rfl
      rintro e z2 ⟨rfl, hmz, hgr⟩
      have lwb0 := Lib.hid ((blk_kept hgr (show w.heap.size < y.heap.size by omega) (by omega)).trans hby0.out)
      have lwb1 := Lib.hid ((blk_kept hgr (show w.heap.size + 1 < y.heap.size by omega) (by omega)).trans hby1.out)
      refine ⟨_, rfl, lwb1.out, ?_⟩
      refine h_done (by kernel_rfl) ?_
      have lwm := Lib.hid hmz
      have lwo := Lib.hid (hmy.out.kept hgr hgh)
      have lwp := Lib.hid (hpy.out.kept hgr hph)
      have lwT := Lib.hid (hTwy.out.grown hgr (.inr rfl))
      have lws : W.heap.size ≤ z2.heap.size := by have := hgr.size; omega
      clear hmz hgr hmy hey hpy hby0 hby1 hTwy hsy
      have nm := Lib.hid (lwo.out.congr (fun r c _ _ => hnm.out r c))
      have ne := Lib.hid (lwm.out.congr (fun r c _ _ => hne.out r c))
      go_wp2_with fail
      go_roundw
      case rel => exact ⟨k + 1, by omega, by go_num, nm, ne, lwp, lwb0, lwb1, lwT, hide lws⟩
      case measure => simp [intOf]; omega
    · obtain rfl : k = R := by omega
      have i1 : decide ((k : Int) < (k : Int)) = false := by simp
      have hm9 : Hid (MRow wr g k C (elF F (rinv (F i col)) (fun r => F r col) i)) := hide (by rw [hxh.out, hsh.out]; exact vm.out.congr (fun r c hr _ => elK_end F s (fun r => F r col) i k r c hr))
      have he9 : Hid (MRow wr h k C' (elF E (rinv (F i col)) (fun r => F r col) i)) := hide (by rw [hxh.out, hsh.out]; exact ve.out.congr (fun r c hr _ => elK_end E s (fun r => F r col) i k r c hr))
      go_wp2_with fail
      go_end0
      exact ⟨rfl, hm9.out, he9.out, vT.out⟩
end Go.Proofs.Ytmfagdbocidfjaa
