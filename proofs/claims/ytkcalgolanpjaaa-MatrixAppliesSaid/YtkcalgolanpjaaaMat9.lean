/- The contracts of the document's Pick, swapped. Conditions: what the slices read as. -/
import Derived.Test.YtkcalgolanpjaaaMat8
namespace Go.Proofs.Ytkcalgolanpjaaa
open Go.RowKit
/-- a matrix comes back -/
def XPost (W : World) (R C : Nat) (F : Nat → Nat → Nat) (e : Ending) (W' : World) : Prop :=
  ∃ s cap, e = .returned (.agg #[.int .i64 (R : Nat), .int .i64 (C : Nat), .slice s (R * C) cap]) ∧ MAt W' s R C F ∧ (s = none → R * C = 0 ∧ cap = 0) ∧ R * C ≤ cap ∧ Below W.heap.size W W'
theorem XPost.congr {W : World} {R C : Nat} {F F' : Nat → Nat → Nat} {e : Ending} {W' : World} (h : XPost W R C F e W') (hF : ∀ r c, r < R → c < C → F r c = F' r c) : XPost W R C F' e W' := by
  obtain ⟨s, cap, he, hm, hr⟩ := h
  refine ⟨s, cap, he, fun i k hi hk => ?_, hr⟩
  rw [← hF i k hi hk]
  exact hm i k hi hk
def zfl (C : Nat) (G : Nat → Nat → Nat) (j : Nat) : Int := (flF C G j : Nat)
theorem zfl_at (C : Nat) (G : Nat → Nat → Nat) (i k : Nat) (hk : k < C) : ((G i k : Nat) : Int) = zfl C G (i * C + k) := by unfold zfl; rw [fl_at C G i k hk]
theorem mat_of_z {w : World} {s : Option Addr} {R C : Nat} {G : Nat → Nat → Nat} (h : ZAt w .u8 s (R * C) (zfl C G)) : MAt w s R C G := fun i k hi hk => by
  obtain ⟨b, off, hs, hc⟩ := h (i * C + k) (idx_lt hi hk)
  rw [← zfl_at C G i k hk] at hc
  exact ⟨b, off, hs, hc⟩
/-- a box that is read, and one that is filled: cells -/
def bxA (R C : Nat) (v : Value) : Array Value := #[.int .i64 (R : Nat), .int .i64 (C : Nat), v]
structure BldAt (wr W1 : World) (R C : Nat) (n : Nat) (s : Option Addr) (c : Nat) (G : Nat → Nat → Nat) : Prop where
  bx : wr.heap[W1.heap.size]? = some (.cells #[.int .i64 (R : Nat), .int .i64 (C : Nat), .slice s n c] 33 (0, 0))
  own : OwnZ wr (W1.heap.size + 1) 5 .u8 (.slice s n c) n (zfl C G)
  lo : Below W1.heap.size W1 wr
theorem BldAt.size {wr W1 : World} {R C n c : Nat} {s : Option Addr} {G : Nat → Nat → Nat} (h : BldAt wr W1 R C n s c G) : W1.heap.size + 1 ≤ wr.heap.size := (Array.getElem?_eq_some_iff.1 h.bx).1
/-- a call or an alloc later -/
theorem BldAt.below {wr w2 W1 : World} {R C n c : Nat} {s : Option Addr} {G : Nat → Nat → Nat} (h : BldAt wr W1 R C n s c G) (hb : Below wr.heap.size wr w2) : BldAt w2 W1 R C n s c G :=
  ⟨(hb.block _ h.size).trans h.bx, h.own.below hb, h.lo.trans (hb.mono (by have := h.size; omega))⟩
/-- one more element -/
theorem BldAt.put {wr w2 W1 : World} {R C n c : Nat} {s : Option Addr} {G : Nat → Nat → Nat} {v' : Value} (h : BldAt wr W1 R C n s c G) (ho : OwnZ w2 (W1.heap.size + 1) 5 .u8 v' (n + 1) (zfl C G)) (hg : wr.grownBy w2 (Value.ownBlock (.slice s n c))) :
    ∃ s' c', v' = .slice s' (n + 1) c' ∧ w2.heap[W1.heap.size]? = some (.cells #[.int .i64 (R : Nat), .int .i64 (C : Nat), .slice s n c] 33 (0, 0)) ∧ BldAt (w2.setCell ⟨W1.heap.size, 2, none⟩ (.slice s' (n + 1) c')) W1 R C (n + 1) s' c' G := by
  obtain ⟨s', c', rfl, _⟩ := ho.open
  have hsz := h.size
  have hbx : w2.heap[W1.heap.size]? = some (.cells #[.int .i64 (R : Nat), .int .i64 (C : Nat), .slice s n c] 33 (0, 0)) := (hg.block _ hsz (fun e => by have := (h.own.lt _ e.symm).1; omega)).trans h.bx
  refine ⟨s', c', rfl, hbx, (blk_set hbx 2 _).trans rfl, ?_, ?_⟩
  · refine World.ownsRow.kept ho (row := some W1.heap.size) (only_setCell (only_refl _ _) (.inl rfl) _) ?_
    rcases hv : Value.ownBlock (.slice s' (n + 1) c') with _ | b
    · exact .inl rfl
    · exact .inr (fun e => by injection e with e; have := (ho.lt b hv).1; omega)
  · have hl : Below W1.heap.size W1 w2 := below_grown h.lo (Nat.le_refl _) hg (fun b hb => by have := (h.own.lt b hb).1; omega)
    exact hl.setCell (Nat.le_refl _) _
/-- rows of a matrix, picked -/
def pkF (F : Nat → Nat → Nat) (J : Nat → Nat) (i k : Nat) : Nat := F (J i) k
theorem infoI8 : (Try.prog.info? 5).map (fun i => (i.zero, i.size, i.bytes)) = some (some (.int .u8 0), 1, 1) := info8
attribute [local irreducible] gexp gtbl glog rmul rinv rpow zexp mixF blk wLoad wLoadRes loadAns wStore wStoreRes storeAns Plain flF BRow MRow elK elF IsGf ivS gjS pvF clF swF OwnZ zfl
attribute [local go_sem ↓] ld_m0 ld_x0 sto_m0 sto_x0
attribute [local go_sem] ld_m ld_x sto_m sto_x loadAns_some storeAns_some mx_size mx_plain blk_alloc_if blk_setRow_if blk_drew_at blk_drewN_at rowPut_some
set_option maxRecDepth 100000 in
set_option maxHeartbeats 8000000 in
theorem x_pick (R C m : Nat) (a rs : Option Addr) (cap rcap : Nat) (F : Nat → Nat → Nat) (J : Nat → Nat) (w : World) (ha : MAt w a R C F) (hr : ZAt w .i64 rs m (fun i => (J i : Nat))) (hJ : ∀ i, i < m → J i < R) (hm : m ≤ 255) (hR : R ≤ 255) (hC : C ≤ 255) :
    Calls Try.prog 31 #[.agg #[.int .i64 (R : Nat), .int .i64 (C : Nat), .slice a (R * C) cap], .slice rs m rcap] w (XPost w m C (pkF F J)) := by
  have hz := zeroX
  obtain ⟨h0, h1, hsz, hB⟩ := two_allocs w (.cells #[.int .i64 (R : Nat), .int .i64 (C : Nat), .slice a (R * C) cap] 33) (.cells #[.int .i64 0, .int .i64 0, .slice none 0 0] 33)
  have kat := Lib.hid (fun i k W (h : MAt W a R C F) (hi : i < m) (hk : k < C) => x_at R C (J i) k F a cap W h (hJ i hi) hk hR hC)
  have hah := Lib.hid ha
  have hrh := Lib.hid hr
  have hrc := rc_le hm hC
  have hidx := Lib.hid (fun i k (hi : i < m) (hk : k < C) => idx_le hi hk hm hC)
  obtain ⟨N, hNe⟩ : ∃ N, R * C = N := ⟨_, rfl⟩
  rw [hNe] at kat h0 ⊢
  rw [hNe] at hB h1 hsz
  clear ha hr hNe
  go_enter Try.func31, Try.ntmps31
  go_upto_region 1 with (fail)
  generalize World.alloc (World.alloc w _) _ = W at *
  have hx0 : w.heap.size < W.heap.size := by omega
  have hx1 : w.heap.size + 1 < W.heap.size := by omega
  have h0h := Lib.hid (blk_of h0)
  have h1h := Lib.hid h1
  have hBh := Lib.hid hB
  have c1 : W.cell? ⟨w.heap.size, 1, none⟩ = some (.int .i64 (C : Nat)) := (cell_of_block h0).trans rfl
  clear h0 h1 hsz hB
  go_upto_region 2 with (fail)
  obtain ⟨x0, x1, x2⟩ := boxed W #[.int .i64 0, .int .i64 0, .slice none 0 0] #[.int .i64 (m : Nat), .int .i64 (C : Nat), .slice none 0 0] 33
  generalize World.setRow (World.alloc W _) _ _ = X at *
  have hX : Hid (BldAt X W m C (0 * C) none 0 (pkF F J)) := hide (by rw [Nat.zero_mul]; exact ⟨x0, OwnZ.nil _ _ _ _ _, x2⟩)
  have hwW : w.heap.size ≤ W.heap.size := by omega
  clear x0 x1 x2 c1
  go_upto_region 3 with (fail)
  go_loopw [6] (fun iv wr => ∃ (i : Nat) (s : Option Addr) (c : Nat), i ≤ m ∧ iv = .int .i64 (i : Nat) ∧ Hid (BldAt wr W m C (i * C) s c (pkF F J))) (fun iv _ => m - (intOf iv).toNat)
  case atStart => exact ⟨0, none, 0, Nat.zero_le _, rfl, hX⟩
  case round =>
    obtain ⟨i, s0, c0, hi, rfl, hB0⟩ := hrel
    clear hX
    by_cases him : i < m
    · have i1 : (i : Int) < (m : Int) := by omega
      obtain ⟨bb, oo, hse, hrc0⟩ := hrh.out i him
      subst hse
      have hbbl := cell_block_lt hrc0
      have hJi := Lib.hid (fun k => show pkF F J i k = F (J i) k from rfl)
      obtain ⟨Ji, hJe⟩ : ∃ Ji, J i = Ji := ⟨_, rfl⟩
      dsimp only at hrc0
      rw [hJe] at hrc0
      have kat2 := Lib.hid (fun k W' h hk => kat.out i k W' h him hk)
      rw [hJe] at kat2 hJi
      have hS : Hid (∀ y : World, Below W.heap.size W y → (blk y w.heap.size = some (.cells #[.int .i64 (R : Nat), .int .i64 (C : Nat), .slice a N cap] 33 (0, 0)) ∧ y.cell? ⟨bb, oo + i, none⟩ = some (.int .i64 (Ji : Nat)))) := hide (fun y hy =>
        ⟨(blk_below hy hx0).trans h0h.out, ((hBh.out.trans (hy.mono hwW)).cell (p := ⟨bb, oo + i, none⟩) hbbl).trans hrc0⟩)
      clear hrc0 hJe
      go_upto_region 6 with (fail)
      go_loopw [7] (fun kv wr => ∃ (k : Nat) (s : Option Addr) (c : Nat), k ≤ C ∧ kv = .int .i64 (k : Nat) ∧ Hid (BldAt wr W m C (i * C + k) s c (pkF F J))) (fun kv _ => C - (intOf kv).toNat)
      case atStart => exact ⟨0, s0, c0, Nat.zero_le _, rfl, hB0⟩
      case round =>
        obtain ⟨k, s, c, hk, rfl, hB1⟩ := hrel
        have hs1 := hS.out _ hB1.out.lo
        have b2 := hs1.1
        have cr := hs1.2
        have cc : wr.cell? ⟨w.heap.size, 1, none⟩ = some (.int .i64 (C : Nat)) := (cell_of_block (blk_heap b2)).trans rfl
        clear hs1
        by_cases hkC : k < C
        · have i2 : (k : Int) < (C : Int) := by omega
          have hix := hidx.out i k him hkC
          have hxz : Hid (((F Ji k : Nat) : Int) = zfl C (pkF F J) (i * C + k)) := hide (by rw [← hJi.out k]; exact zfl_at C (pkF F J) i k hkC)
          have hBd := Lib.hid (hB1.out.below (below_drewN (Below.refl _ _) 1))
          have hxh : Hid (∀ y, Below W.heap.size W y → Calls Try.prog 35 #[.agg #[.int .i64 (R : Nat), .int .i64 (C : Nat), .slice a N cap], .int .i64 (Ji : Nat), .int .i64 (k : Nat)] y (Ret y (.int .u8 (F Ji k : Nat)))) := hide (fun y hy => kat2.out k y (hah.out.below (hBh.out.trans (hy.mono hwW))) hkC)
          generalize F Ji k = x at *
          go_upto_region 8 with (fail)
          have cs : wr.drew.cell? ⟨W.heap.size, 2, none⟩ = some (.slice s (i * C + k) c) := (cell_of_block hBd.out.bx).trans rfl
          refine h_begin 13 (fun y : World => blk y w.heap.size = some (.cells #[.int .i64 (R : Nat), .int .i64 (C : Nat), .slice a N cap] 33 (0, 0)) ∧ y.cell? ⟨bb, oo + i, none⟩ = some (.int .i64 (Ji : Nat))) rfl (by kernel_rfl) (hS.out _ hBd.out.lo) ?_
          have hHeld : (fun y : World => blk y w.heap.size = some (.cells #[.int .i64 (R : Nat), .int .i64 (C : Nat), .slice a N cap] 33 (0, 0)) ∧ y.cell? ⟨bb, oo + i, none⟩ = some (.int .i64 (Ji : Nat))) wr.drew := hS.out _ hBd.out.lo
          first
            | (refine h_run (i := 0) (v := ?_) hHeld rfl (by kernel_rfl) (by kernel_rfl) (by kernel_rfl) ?_ ?_ ?_
               rotate_left
               · rfl
               · (intro x hSx; (try dsimp only at hSx); go_simp <;> with_reducible rfl)
               simp only [Act.put, List.setIfInBounds_toArray, List.set_cons_zero, List.set_cons_succ])
            | (refine h_skip (i := 0) hHeld rfl (by kernel_rfl) (by kernel_rfl) (by kernel_rfl) ?_ ?_
               · rfl
               simp only [Act.put, List.setIfInBounds_toArray, List.set_cons_zero, List.set_cons_succ])
          first
            | (refine h_run (i := 2) (v := ?_) hHeld rfl (by kernel_rfl) (by kernel_rfl) (by kernel_rfl) ?_ ?_ ?_
               rotate_left
               · rfl
               · (intro x hSx; (try dsimp only at hSx); go_simp <;> with_reducible rfl)
               simp only [Act.put, List.setIfInBounds_toArray, List.set_cons_zero, List.set_cons_succ])
            | (refine h_skip (i := 2) hHeld rfl (by kernel_rfl) (by kernel_rfl) (by kernel_rfl) ?_ ?_
               · rfl
               simp only [Act.put, List.setIfInBounds_toArray, List.set_cons_zero, List.set_cons_succ])
          first
            | (refine h_run (i := 3) (v := ?_) hHeld rfl (by kernel_rfl) (by kernel_rfl) (by kernel_rfl) ?_ ?_ ?_
               rotate_left
               · rfl
               · (intro x hSx; (try dsimp only at hSx); go_simp <;> with_reducible rfl)
               simp only [Act.put, List.setIfInBounds_toArray, List.set_cons_zero, List.set_cons_succ])
            | (refine h_skip (i := 3) hHeld rfl (by kernel_rfl) (by kernel_rfl) (by kernel_rfl) ?_ ?_
               · rfl
               simp only [Act.put, List.setIfInBounds_toArray, List.set_cons_zero, List.set_cons_succ])
          first
            | (refine h_run (i := 4) (v := ?_) hHeld rfl (by kernel_rfl) (by kernel_rfl) (by kernel_rfl) ?_ ?_ ?_
               rotate_left
               · rfl
               · (intro x hSx; (try dsimp only at hSx); go_simp <;> with_reducible rfl)
               simp only [Act.put, List.setIfInBounds_toArray, List.set_cons_zero, List.set_cons_succ])
            | (refine h_skip (i := 4) hHeld rfl (by kernel_rfl) (by kernel_rfl) (by kernel_rfl) ?_ ?_
               · rfl
               simp only [Act.put, List.setIfInBounds_toArray, List.set_cons_zero, List.set_cons_succ])
          first
            | (refine h_run (i := 5) (v := ?_) hHeld rfl (by kernel_rfl) (by kernel_rfl) (by kernel_rfl) ?_ ?_ ?_
               rotate_left
               · rfl
               · (intro x hSx; (try dsimp only at hSx); go_simp <;> with_reducible rfl)
               simp only [Act.put, List.setIfInBounds_toArray, List.set_cons_zero, List.set_cons_succ])
            | (refine h_skip (i := 5) hHeld rfl (by kernel_rfl) (by kernel_rfl) (by kernel_rfl) ?_ ?_
               · rfl
               simp only [Act.put, List.setIfInBounds_toArray, List.set_cons_zero, List.set_cons_succ])
          first
            | (refine h_run (i := 6) (v := ?_) hHeld rfl (by kernel_rfl) (by kernel_rfl) (by kernel_rfl) ?_ ?_ ?_
               rotate_left
               · rfl
               · (intro x hSx; (try dsimp only at hSx); go_simp <;> with_reducible rfl)
               simp only [Act.put, List.setIfInBounds_toArray, List.set_cons_zero, List.set_cons_succ])
            | (refine h_skip (i := 6) hHeld rfl (by kernel_rfl) (by kernel_rfl) (by kernel_rfl) ?_ ?_
               · rfl
               simp only [Act.put, List.setIfInBounds_toArray, List.set_cons_zero, List.set_cons_succ])
          first
            | (refine h_run (i := 7) (v := ?_) hHeld rfl (by kernel_rfl) (by kernel_rfl) (by kernel_rfl) ?_ ?_ ?_
               rotate_left
               · rfl
               · (intro x hSx; (try dsimp only at hSx); go_simp <;> with_reducible rfl)
               simp only [Act.put, List.setIfInBounds_toArray, List.set_cons_zero, List.set_cons_succ])
            | (refine h_skip (i := 7) hHeld rfl (by kernel_rfl) (by kernel_rfl) (by kernel_rfl) ?_ ?_
               · rfl
               simp only [Act.put, List.setIfInBounds_toArray, List.set_cons_zero, List.set_cons_succ])
          clear hHeld
          refine h_pairM (i := 1) (j := 8) (v := .slice s (i * C + k) c) (w1 := wr.drew) (hxh.out wr.drew hBd.out.lo) rfl rfl (by kernel_rfl) rfl rfl ?_ ?_ (hS.out _ hBd.out.lo) ?_ ?_
          · go_simp <;> with_reducible rfl
          · go_simp <;> with_reducible rfl
          · refine h_call (i := 8) (fun y : World => blk y w.heap.size = some (.cells #[.int .i64 (R : Nat), .int .i64 (C : Nat), .slice a N cap] 33 (0, 0)) ∧ y.cell? ⟨bb, oo + i, none⟩ = some (.int .i64 (Ji : Nat))) (fun _ h => h) (hxh.out wr.drew hBd.out.lo) rfl (by kernel_rfl) rfl ?_ ?_
            · go_simp <;> with_reducible rfl
            rintro e y ⟨rfl, hcy⟩
            have hby := Lib.hid (hBd.out.below hcy)
            have hal : Below W.heap.size W (y.alloc (.cells #[.int .u8 (x : Nat)] 5)) := hby.out.lo.alloc hby.out.lo.size _
            refine ⟨_, rfl, hS.out _ hby.out.lo, ?_⟩
            clear cs hcy
            refine h_value (i := 9) (v := .slice (some ⟨y.heap.size, 0, none⟩) 1 1) (w' := y.alloc (.cells #[.int .u8 (x : Nat)] 5)) (fun y : World => blk y w.heap.size = some (.cells #[.int .i64 (R : Nat), .int .i64 (C : Nat), .slice a N cap] 33 (0, 0)) ∧ y.cell? ⟨bb, oo + i, none⟩ = some (.int .i64 (Ji : Nat))) (fun _ h => h) rfl (by kernel_rfl) rfl ?_ (hS.out _ hal) ?_
            · go_simp <;> with_reducible rfl
            obtain ⟨v', y2, hrun, hown, hgr⟩ := run_snocZ (P := Try.prog) Try.underlying22 infoI8 (by decide) y (.slice s (i * C + k) c) (W.heap.size + 1) (i * C + k) (zfl C (pkF F J)) (x : Nat) hxz.out hby.out.own (by omega) hby.out.size 22
            obtain ⟨s', c', rfl, hbx2, hput⟩ := hby.out.put hown hgr
            have hlo2 : Below W.heap.size W y2 := below_grown hby.out.lo (Nat.le_refl _) hgr (fun b hb => by have := (hby.out.own.lt b hb).1; omega)
            refine h_value (i := 10) (v := .slice s' (i * C + k + 1) c') (w' := y2) (fun y : World => blk y w.heap.size = some (.cells #[.int .i64 (R : Nat), .int .i64 (C : Nat), .slice a N cap] 33 (0, 0)) ∧ y.cell? ⟨bb, oo + i, none⟩ = some (.int .i64 (Ji : Nat))) (fun _ h => h) rfl (by kernel_rfl) rfl ?_ (hS.out _ hlo2) ?_
            · exact exec_appendM (.tmp 26) (.tmp 34) _ _ rfl rfl rfl hrun
            have hHeld : (fun y : World => blk y w.heap.size = some (.cells #[.int .i64 (R : Nat), .int .i64 (C : Nat), .slice a N cap] 33 (0, 0)) ∧ y.cell? ⟨bb, oo + i, none⟩ = some (.int .i64 (Ji : Nat))) y2 := hS.out _ hlo2
            first
              | (refine h_run (i := 11) (v := ?_) hHeld rfl (by kernel_rfl) (by kernel_rfl) (by kernel_rfl) ?_ ?_ ?_
                 rotate_left
                 · rfl
                 · (intro x hSx; (try dsimp only at hSx); go_simp <;> with_reducible rfl)
                 simp only [Act.put, List.setIfInBounds_toArray, List.set_cons_zero, List.set_cons_succ])
              | (refine h_skip (i := 11) hHeld rfl (by kernel_rfl) (by kernel_rfl) (by kernel_rfl) ?_ ?_
                 · rfl
                 simp only [Act.put, List.setIfInBounds_toArray, List.set_cons_zero, List.set_cons_succ])
            clear hHeld
            have c2o : y2.cell? ⟨W.heap.size, 2, none⟩ = some (.slice s (i * C + k) c) := (cell_of_block hbx2).trans rfl
            have f2o : y2.frozen? ⟨W.heap.size, 2, none⟩ = false := frozen_of_row y2 _ 2 _ _ hbx2
            refine h_write (i := 12) (w' := y2.setCell ⟨W.heap.size, 2, none⟩ (.slice s' (i * C + k + 1) c')) (fun y : World => blk y w.heap.size = some (.cells #[.int .i64 (R : Nat), .int .i64 (C : Nat), .slice a N cap] 33 (0, 0)) ∧ y.cell? ⟨bb, oo + i, none⟩ = some (.int .i64 (Ji : Nat))) (fun _ h => h) rfl (by kernel_rfl) rfl ?_ (hS.out _ hput.lo) ?_
            · go_simp <;> with_reducible rfl
            refine h_done (by kernel_rfl) ?_
            have hputh := Lib.hid hput
            clear hrun hown hgr hbx2 hput hlo2 c2o f2o hal
            go_wp2_with fail
            go_roundw
            case rel => exact ⟨k + 1, s', c', by omega, by go_num, hputh⟩
            case measure => simp [intOf]; omega
          · rintro e y ⟨rfl, hcy⟩
            have hby := Lib.hid (hBd.out.below hcy)
            have hal : Below W.heap.size W (y.alloc (.cells #[.int .u8 (x : Nat)] 5)) := hby.out.lo.alloc hby.out.lo.size _
            refine ⟨_, rfl, hS.out _ hby.out.lo, ?_⟩
            have csy : y.cell? ⟨W.heap.size, 2, none⟩ = some (.slice s (i * C + k) c) := (cell_of_block hby.out.bx).trans rfl
            have csz : (y.alloc (.cells #[.int .u8 (x : Nat)] 5)).cell? ⟨W.heap.size, 2, none⟩ = some (.slice s (i * C + k) c) := (cell_of_block (blk_alloc hby.out.bx _)).trans rfl
            refine h_pairV (i := 1) (j := 9) (v := .slice s (i * C + k) c) (u := .slice (some ⟨y.heap.size, 0, none⟩) 1 1) (w1 := y) (w2 := y.alloc (.cells #[.int .u8 (x : Nat)] 5)) rfl rfl (by kernel_rfl) rfl rfl ?_ ?_ (hS.out _ hby.out.lo) (hS.out _ hal) ?_ ?_
            · go_simp <;> with_reducible rfl
            · go_simp <;> with_reducible rfl
            · clear cs hcy csy csz
              refine h_value (i := 9) (v := .slice (some ⟨y.heap.size, 0, none⟩) 1 1) (w' := y.alloc (.cells #[.int .u8 (x : Nat)] 5)) (fun y : World => blk y w.heap.size = some (.cells #[.int .i64 (R : Nat), .int .i64 (C : Nat), .slice a N cap] 33 (0, 0)) ∧ y.cell? ⟨bb, oo + i, none⟩ = some (.int .i64 (Ji : Nat))) (fun _ h => h) rfl (by kernel_rfl) rfl ?_ (hS.out _ hal) ?_
              · go_simp <;> with_reducible rfl
              obtain ⟨v', y2, hrun, hown, hgr⟩ := run_snocZ (P := Try.prog) Try.underlying22 infoI8 (by decide) y (.slice s (i * C + k) c) (W.heap.size + 1) (i * C + k) (zfl C (pkF F J)) (x : Nat) hxz.out hby.out.own (by omega) hby.out.size 22
              obtain ⟨s', c', rfl, hbx2, hput⟩ := hby.out.put hown hgr
              have hlo2 : Below W.heap.size W y2 := below_grown hby.out.lo (Nat.le_refl _) hgr (fun b hb => by have := (hby.out.own.lt b hb).1; omega)
              refine h_value (i := 10) (v := .slice s' (i * C + k + 1) c') (w' := y2) (fun y : World => blk y w.heap.size = some (.cells #[.int .i64 (R : Nat), .int .i64 (C : Nat), .slice a N cap] 33 (0, 0)) ∧ y.cell? ⟨bb, oo + i, none⟩ = some (.int .i64 (Ji : Nat))) (fun _ h => h) rfl (by kernel_rfl) rfl ?_ (hS.out _ hlo2) ?_
              · exact exec_appendM (.tmp 26) (.tmp 34) _ _ rfl rfl rfl hrun
              have hHeld : (fun y : World => blk y w.heap.size = some (.cells #[.int .i64 (R : Nat), .int .i64 (C : Nat), .slice a N cap] 33 (0, 0)) ∧ y.cell? ⟨bb, oo + i, none⟩ = some (.int .i64 (Ji : Nat))) y2 := hS.out _ hlo2
              first
                | (refine h_run (i := 11) (v := ?_) hHeld rfl (by kernel_rfl) (by kernel_rfl) (by kernel_rfl) ?_ ?_ ?_
                   rotate_left
                   · rfl
                   · (intro x hSx; (try dsimp only at hSx); go_simp <;> with_reducible rfl)
                   simp only [Act.put, List.setIfInBounds_toArray, List.set_cons_zero, List.set_cons_succ])
                | (refine h_skip (i := 11) hHeld rfl (by kernel_rfl) (by kernel_rfl) (by kernel_rfl) ?_ ?_
                   · rfl
                   simp only [Act.put, List.setIfInBounds_toArray, List.set_cons_zero, List.set_cons_succ])
              clear hHeld
              have c2o : y2.cell? ⟨W.heap.size, 2, none⟩ = some (.slice s (i * C + k) c) := (cell_of_block hbx2).trans rfl
              have f2o : y2.frozen? ⟨W.heap.size, 2, none⟩ = false := frozen_of_row y2 _ 2 _ _ hbx2
              refine h_write (i := 12) (w' := y2.setCell ⟨W.heap.size, 2, none⟩ (.slice s' (i * C + k + 1) c')) (fun y : World => blk y w.heap.size = some (.cells #[.int .i64 (R : Nat), .int .i64 (C : Nat), .slice a N cap] 33 (0, 0)) ∧ y.cell? ⟨bb, oo + i, none⟩ = some (.int .i64 (Ji : Nat))) (fun _ h => h) rfl (by kernel_rfl) rfl ?_ (hS.out _ hput.lo) ?_
              · go_simp <;> with_reducible rfl
              refine h_done (by kernel_rfl) ?_
              have hputh := Lib.hid hput
              clear hrun hown hgr hbx2 hput hlo2 c2o f2o hal
              go_wp2_with fail
              go_roundw
              case rel => exact ⟨k + 1, s', c', by omega, by go_num, hputh⟩
              case measure => simp [intOf]; omega
            · refine h_value (i := 1) (v := .slice s (i * C + k) c) (w' := y.alloc (.cells #[.int .u8 (x : Nat)] 5)) (fun y : World => blk y w.heap.size = some (.cells #[.int .i64 (R : Nat), .int .i64 (C : Nat), .slice a N cap] 33 (0, 0)) ∧ y.cell? ⟨bb, oo + i, none⟩ = some (.int .i64 (Ji : Nat))) (fun _ h => h) rfl (by kernel_rfl) rfl ?_ (hS.out _ hal) ?_
              · go_simp <;> with_reducible rfl
              clear cs hcy csy csz
              obtain ⟨v', y2, hrun, hown, hgr⟩ := run_snocZ (P := Try.prog) Try.underlying22 infoI8 (by decide) y (.slice s (i * C + k) c) (W.heap.size + 1) (i * C + k) (zfl C (pkF F J)) (x : Nat) hxz.out hby.out.own (by omega) hby.out.size 22
              obtain ⟨s', c', rfl, hbx2, hput⟩ := hby.out.put hown hgr
              have hlo2 : Below W.heap.size W y2 := below_grown hby.out.lo (Nat.le_refl _) hgr (fun b hb => by have := (hby.out.own.lt b hb).1; omega)
              refine h_value (i := 10) (v := .slice s' (i * C + k + 1) c') (w' := y2) (fun y : World => blk y w.heap.size = some (.cells #[.int .i64 (R : Nat), .int .i64 (C : Nat), .slice a N cap] 33 (0, 0)) ∧ y.cell? ⟨bb, oo + i, none⟩ = some (.int .i64 (Ji : Nat))) (fun _ h => h) rfl (by kernel_rfl) rfl ?_ (hS.out _ hlo2) ?_
              · exact exec_appendM (.tmp 26) (.tmp 34) _ _ rfl rfl rfl hrun
              have hHeld : (fun y : World => blk y w.heap.size = some (.cells #[.int .i64 (R : Nat), .int .i64 (C : Nat), .slice a N cap] 33 (0, 0)) ∧ y.cell? ⟨bb, oo + i, none⟩ = some (.int .i64 (Ji : Nat))) y2 := hS.out _ hlo2
              first
                | (refine h_run (i := 11) (v := ?_) hHeld rfl (by kernel_rfl) (by kernel_rfl) (by kernel_rfl) ?_ ?_ ?_
                   rotate_left
                   · rfl
                   · (intro x hSx; (try dsimp only at hSx); go_simp <;> with_reducible rfl)
                   simp only [Act.put, List.setIfInBounds_toArray, List.set_cons_zero, List.set_cons_succ])
                | (refine h_skip (i := 11) hHeld rfl (by kernel_rfl) (by kernel_rfl) (by kernel_rfl) ?_ ?_
                   · rfl
                   simp only [Act.put, List.setIfInBounds_toArray, List.set_cons_zero, List.set_cons_succ])
              clear hHeld
              have c2o : y2.cell? ⟨W.heap.size, 2, none⟩ = some (.slice s (i * C + k) c) := (cell_of_block hbx2).trans rfl
              have f2o : y2.frozen? ⟨W.heap.size, 2, none⟩ = false := frozen_of_row y2 _ 2 _ _ hbx2
              refine h_write (i := 12) (w' := y2.setCell ⟨W.heap.size, 2, none⟩ (.slice s' (i * C + k + 1) c')) (fun y : World => blk y w.heap.size = some (.cells #[.int .i64 (R : Nat), .int .i64 (C : Nat), .slice a N cap] 33 (0, 0)) ∧ y.cell? ⟨bb, oo + i, none⟩ = some (.int .i64 (Ji : Nat))) (fun _ h => h) rfl (by kernel_rfl) rfl ?_ (hS.out _ hput.lo) ?_
              · go_simp <;> with_reducible rfl
              refine h_done (by kernel_rfl) ?_
              have hputh := Lib.hid hput
              clear hrun hown hgr hbx2 hput hlo2 c2o f2o hal
              go_wp2_with fail
              go_roundw
              case rel => exact ⟨k + 1, s', c', by omega, by go_num, hputh⟩
              case measure => simp [intOf]; omega
        · obtain rfl : k = C := by omega
          have i2 : decide ((k : Int) < (k : Int)) = false := by simp
          have hB2 : Hid (BldAt wr W m k ((i + 1) * k) s c (pkF F J)) := hide (by rw [Nat.add_mul, Nat.one_mul]; exact hB1.out)
          go_wp2_with fail
          go_roundw
          case rel => exact ⟨i + 1, s, c, by omega, by go_num, hB2⟩
          case measure => simp [intOf]; omega
    · obtain rfl : i = m := by omega
      have i1 : decide ((i : Int) < (i : Int)) = false := by simp
      have hbx := blk_of hB0.out.bx
      have hb1 := (hB0.out.lo.block _ hx1).trans h1h.out
      have hb1b := blk_of hb1
      have hb1h := Lib.hid hb1
      have hlo := Lib.hid (hBh.out.trans (hB0.out.lo.mono hwW))
      obtain ⟨s9, c9, he9, hz9, hn9, _, hnil9⟩ := hB0.out.own.open
      cases he9
      have hmat := Lib.hid (mat_of_z hz9)
      have hlt : ∀ D, MAt (wr.setRow (w.heap.size + 1) D) s0 i C (pkF F J) := fun D r k' hr hk' => by
        obtain ⟨b, off, hs, hc⟩ := hmat.out r k' hr hk'
        refine ⟨b, off, hs, ?_⟩
        have hown := hB0.out.own
        rw [hs] at hown
        have hbl := (hown.lt b rfl).1
        have : (wr.setRow (w.heap.size + 1) D).heap[b]? = wr.heap[b]? := setRow_other _ _ _ _ (by omega)
        rw [World.cell?_of_block (a := ⟨b, off + (r * C + k'), none⟩) this]
        exact hc
      have hlth := Lib.hid hlt
      clear hb1 hlt hz9
      go_wp2_with fail
      refine bodyPost_ret (v := .agg #[.int .i64 (i : Nat), .int .i64 (C : Nat), .slice s0 (i * C) c0]) (results_cell_row rfl _ _ (w.heap.size + 1) 33 _ (0, 0) _ rfl (setRow_heap _ _ _ _ _ _ hb1h.out) Try.underlying33 rfl rx_info) rfl ⟨s0, c0, rfl, hlth.out _, hnil9, hn9, below_setRow hlo.out (by omega) _⟩
end Go.Proofs.Ytkcalgolanpjaaa
