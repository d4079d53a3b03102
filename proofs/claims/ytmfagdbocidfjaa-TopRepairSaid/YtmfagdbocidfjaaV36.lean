import Derived.Test.YtmfagdbocidfjaaV35
import Derived.Test.YtmfagdbocidfjaaV28
import Derived.Deep.DeepCutAuto
import Derived.Test.YtmfagdbocidfjaaV32
/- The data of any k shards. Conditions: what the blocks hold. -/
namespace Go.Proofs.Ytmfagdbocidfjaa
open Go.RowKit
def DecRel (w : World) (k : Nat) (I G cc : Nat → Nat) (v7 v8 v33 : Value) (wr : World) : Prop := ∃ j : Nat, j ≤ k ∧ v33 = .int .i64 (j : Nat) ∧ OwnZ wr w.heap.size 3 .i64 v7 j (fun i => (I i : Nat)) ∧ VAt wr w.heap.size 71 1 v8 j (rwC G cc j) ∧ Below w.heap.size w wr
set_option maxRecDepth 100000 in
theorem own_kept {w w' : World} {base n : Nat} {T : TypeId} {v : Value} {l : List Value} (h : w.ownsRow base T 1 v n l) (e : ∀ b, v.ownBlock = some b → w'.heap[b]? = w.heap[b]?) : w'.ownsRow base T 1 v n l := by
  refine ⟨h.1, ?_⟩
  rcases h.2 with h1 | ⟨g, cap, cur, rfl, h2, h3, h4⟩
  · exact .inl h1
  · exact .inr ⟨g, cap, cur, rfl, h2, (e g rfl).trans h3, h4⟩
set_option maxRecDepth 100000 in
theorem ld_mid (w : World) (c R k N : Nat) (g : Option Addr) (c3 : w.cell? ⟨c, 3, none⟩ = some (.int .i64 (R : Nat))) (c4 : w.cell? ⟨c, 4, none⟩ = some (.int .i64 (k : Nat))) (c5 : w.cell? ⟨c, 5, none⟩ = some (.slice g N N)) :
    (wLoad 188 (.pointer (some ⟨c, 3, none⟩))).run Try.prog w = .ok (.agg #[.int .i64 (R : Nat), .int .i64 (k : Nat), .slice g N N]) w := by
  rw [← ld_m0]
  go_simp
attribute [local irreducible] gexp gtbl glog rmul rinv rpow zexp mixF blk wLoad wLoadRes loadAns wStore wStoreRes storeAns Plain flF BRow MRow MAt By IsGf ivS rsF mlF shC
attribute [local go_sem ↓] ld_m0 sto_m0
attribute [local go_sem] ld_m sto_m loadAns_some storeAns_some mx_size mx_plain blk_alloc_if blk_setRow_if blk_drew_at blk_drewN_at rowPut_some blk_setCell_if cellPut_some
set_option maxRecDepth 100000 in
set_option maxHeartbeats 4000000 in
theorem rs_decode (c p k m b off cap lo : Nat) (I G cc : Nat → Nat) (V : Nat → Nat → Nat) (w : World) (hc : CodeAt w c p k m) (hp : IsGf w p) (hs : SdAt w lo (.slice (some ⟨b, off, none⟩) k cap) k I G cc V) (h0 : 1 ≤ k) (hk8 : k ≤ 8) (hkm : k + m ≤ 255)
    (hI : ∀ j, j < k → I j < k + m) (hi : ∀ j, j + 1 < k → I j < I (j + 1)) (hV : Bd2 V)
    (hpv : ∀ j, j < k → pvF (ivS (pkF (rsF k) I) k j).1 j k j < k) :
    Calls Try.prog 88 #[.pointer (some ⟨c, 0, none⟩), .slice (some ⟨b, off, none⟩) k cap] w (ApPost2 w k 2 (mlF (ivS (pkF (rsF k) I) k k).2 V k)) := by
  have hchk := Lib.hid (rs_check c p k m b off cap lo I G cc V w hc hs h0 hkm hI hi)
  have hch := Lib.hid hc
  have hph := Lib.hid hp
  have hsh := Lib.hid hs
  have hIh := Lib.hid hI
  have hih := Lib.hid hi
  have hVh := Lib.hid hV
  have hpvh := Lib.hid hpv
  clear hc hp hs hI hi hV hpv
  go_enter Try.func88, Try.ntmps88
  go_wp2_with fail
  refine hchk.out.mono ?_
  rintro _ w1 ⟨rfl, hB1⟩
  have hB1h := Lib.hid hB1
  clear hB1 hchk
  go_wp2_with fail
  refine (sd_clone b off k cap lo I G cc V w1 (hsh.out.below hB1h.out) (by omega) (by omega)).mono ?_
  rintro _ w2 ⟨b2, o2, c2, rfl, hs2, hc2, hB2⟩
  have hB2h : Hid (Below w.heap.size w w2) := hide (hB1h.out.trans (hB2.mono hB1h.out.size))
  have hs2h := Lib.hid hs2
  have hbl2 : Hid (w.heap.size ≤ b2) := hide (Nat.le_trans hB1h.out.size (hs2.1.lt b2 rfl).1)
  clear hs2 hB2
  go_wp2_with fail
  refine (so_sort b2 o2 k c2 I G cc w2 hs2h.out.1.sdc hk8 (fun j hj => by have := hIh.out j hj; omega) hih.out).mono ?_
  rintro _ w3 ⟨rfl, hB3⟩
  have hs3h := Lib.hid (hs2h.out.below hB3)
  have hB3h : Hid (Below w.heap.size w w3) := hide (hB2h.out.trans (hB3.mono hB2h.out.size))
  clear hs2h hB3 hB2h hB1h
  obtain ⟨g, hb, hm⟩ := hch.out
  have hcl : c < w.heap.size := (Array.getElem?_eq_some_iff.1 hb).1
  have hbh := Lib.hid hb
  have hmh := Lib.hid hm
  obtain ⟨R, hR⟩ : ∃ R, k + m = R := ⟨_, rfl⟩
  rw [hR] at hbh hmh
  obtain ⟨N, hN⟩ : ∃ N, R * k = N := ⟨_, rfl⟩
  rw [hN] at hbh
  have hcell : Hid (∀ y i v, Below w.heap.size w y → (#[.int .i64 (k : Nat), .int .i64 (m : Nat), .pointer (some ⟨p, 0, none⟩), .int .i64 (R : Nat), .int .i64 (k : Nat), .slice (some ⟨g, 0, none⟩) N N] : Array Value)[i]? = some v → y.cell? ⟨c, i, none⟩ = some v) := hide (fun y i v hy h => by
    have := hbh.out
    rw [← hy.block c hcl] at this
    exact (cell_of_block this).trans h)
  clear hb hm hch
  have c0 := hcell.out w3 0 _ hB3h.out rfl
  have hkc : (k : Int) ≤ (c2 : Int) := by omega
  go_upto_region 10 with (fail)
  clear c0
  go_loopw [7, 8, 33] (fun v7 v8 v33 wr => DecRel w3 k I G cc v7 v8 v33 wr) (fun _ _ v33 _ => k - (intOf v33).toNat)
  case atStart => exact ⟨0, by omega, rfl, OwnZ.nil _ _ _ _ _, VAt.nil _ _ _ _, Below.refl _ _⟩
  case round =>
    obtain ⟨i, hi, rfl, ho, hv, hB⟩ := hrel
    have hBh := Lib.hid hB
    have hvh := Lib.hid hv
    have hoh := Lib.hid ho
    clear hB hv ho
    by_cases hlt : i < k
    · have i1 : (i : Int) < (k : Int) := by omega
      obtain ⟨e0, e1⟩ := (hs3h.out.1.sdc.below hBh.out) i hlt
      go_upto_region 12 with (fail)
      obtain ⟨W, hW⟩ : ∃ W, wr.alloc (.cells #[.int .i64 (I i : Nat), .slice (some ⟨G i, 0, none⟩) 2 (cc i)] 139) = W := ⟨_, rfl⟩
      obtain ⟨q, hq⟩ : ∃ q, wr.heap.size = q := ⟨_, rfl⟩
      have hB1 : Below wr.heap.size wr W := hW ▸ (Below.refl _ _).alloc (Nat.le_refl _) _
      have hBW : Hid (Below w3.heap.size w3 W) := hide (hBh.out.trans (hB1.mono hBh.out.size))
      have hblk : W.heap[q]? = some (.cells #[.int .i64 (I i : Nat), .slice (some ⟨G i, 0, none⟩) 2 (cc i)] 139 (0, 0)) := by rw [← hW, ← hq]; exact Array.getElem?_push_size (xs := wr.heap)
      have hqW := (Array.getElem?_eq_some_iff.1 hblk).1
      have b0 := (cell_of_block hblk).trans (show #[Value.int .i64 (I i : Nat), .slice (some ⟨G i, 0, none⟩) 2 (cc i)][0]? = some (.int .i64 (I i : Nat)) from rfl)
      have hvW := hvh.out.below hB1
      have hoW := hoh.out.below hB1
      have hsz := hBW.out.size
      have hblkh := Lib.hid hblk
      have hvWh := Lib.hid hvW
      have hWh := Lib.hid hW
      have hqh := Lib.hid hq
      clear hblk hW hq hB1 e0 e1 hvW hvh hoh
      rw [hWh.out, hqh.out]
      clear hWh hqh hBh
      go_upto_region 13 with (at_builtin; refine wpList_snocZ Try.underlying55 infoInt (by decide) rfl (.tmp 37) (.tmp 40) rfl W _ w3.heap.size i (fun j => (I j : Nat)) rfl rfl rfl hoW (by omega) hsz ?_; intro v' w6 ho6 hgr; have hO6 := Lib.hid ho6; have hg6 := Lib.hid hgr; clear ho6 hgr)
      have hnint : ∀ x C T, W.heap[x]? = some (.cells C T (0, 0)) → T ≠ 3 → some x ≠ u7.ownBlock := fun x C T h1 h2 e => by
        obtain ⟨cur, fr, h3⟩ := own_type hoW x e.symm
        rw [h1] at h3
        cases h3
        exact h2 rfl
      have hq6 := (hg6.out.block q hqW (hnint q _ _ hblkh.out (by decide))).trans hblkh.out
      have b1 := (cell_of_block hq6).trans (show #[Value.int .i64 (I i : Nat), .slice (some ⟨G i, 0, none⟩) 2 (cc i)][1]? = some (.slice (some ⟨G i, 0, none⟩) 2 (cc i)) from rfl)
      have hv6 : VAt w6 w3.heap.size 71 1 u8 i (rwC G cc i) := hvWh.out.kept (fun x hx => by
        obtain ⟨_, C, hC⟩ := hvWh.out.lt x hx
        exact hg6.out.block x (hvWh.out.blt x hx) (hnint x C _ hC (by decide)))
      have hB6 : Hid (Below w3.heap.size w3 w6) := hide (below_grown hBW.out (Nat.le_refl _) hg6.out (fun x hx => (hoW.lt x hx).1))
      obtain ⟨v9, W9, hr9, hv9, hB9, hg9⟩ := app_one hv6 hB6.out.size (.slice (some ⟨G i, 0, none⟩) 2 (cc i)) rfl (by omega) 68
      have ho9 : OwnZ W9 w3.heap.size 3 .i64 v' (i + 1) (fun j => (I j : Nat)) := own_kept hO6.out (fun x hx => by
        obtain ⟨cur, fr, h3⟩ := own_type hO6.out x hx
        have hx6 := (Array.getElem?_eq_some_iff.1 h3).1
        have hal : (w6.alloc (.cells #[.slice (some ⟨G i, 0, none⟩) 2 (cc i)] 71)).heap[x]? = w6.heap[x]? := ((Below.refl w6.heap.size w6).alloc (Nat.le_refl _) _).block x hx6
        refine (hg9.block x (by show x < (w6.heap.push _).size; rw [Array.size_push]; omega) (fun e => ?_)).trans hal
        obtain ⟨_, C, hC⟩ := hv6.lt x e.symm
        rw [hC] at h3
        cases h3)
      have iw2 : IntKind.i64.wrap ((i : Int) + 1) = ((i + 1 : Nat) : Int) := by rw [IntWalk.i64_in _ (by omega)]; omega
      have hR : Hid (DecRel w3 k I G cc v' v9 (.int .i64 ((i + 1 : Nat) : Int)) W9) := hide ⟨i + 1, by omega, rfl, ho9, hv9, hB6.out.trans hB9⟩
      have hr9h := Lib.hid hr9
      clear hnint hq6 hv6 hB6 hr9 hv9 hB9 hg9 ho9 hO6 hg6 hvWh hblkh hoW b0
      go_wp2_with (at_builtin; refine wpList_app_runV rfl (.tmp 42) (.tmp 45) _ _ rfl rfl rfl hr9h.out ?_)
      refine ⟨?_, ?_⟩
      rotate_left
      · simp [intOf]; omega
      first
        | exact hR.out
        | (repeat (apply Exists.intro)
           exact ⟨hR.out, rfl⟩)
    · obtain rfl : i = k := by omega
      clear hlt hi
      have i1 : decide ((i : Int) < (i : Int)) = false := by simp
      obtain ⟨s7, cap7, rfl, z7, _, _, _⟩ := hoh.out.open
      have hBw : Hid (Below w.heap.size w wr) := hide (hB3h.out.trans (hBh.out.mono hB3h.out.size))
      have hR2 : R ≤ 255 := by omega
      have kpk := Lib.hid (m_pick R i i i (some ⟨g, 0, none⟩) s7 (R * i) cap7 (rsF i) (fun j => (I j : Nat)) wr (hmh.out.below hBw.out) z7 hR2 (by omega) (by omega) (Nat.le_refl _) (Nat.le_refl _) (fun j hj => by have := hIh.out j hj; omega) (fun h => absurd h (Nat.lt_irrefl _)))
      rw [hN] at kpk
      have hNh := Lib.hid hN
      obtain ⟨M, hM⟩ : ∃ M, i * i = M := ⟨_, rfl⟩
      have hMh := Lib.hid hM
      have c3 := hcell.out wr 3 _ hBw.out rfl
      have c4 := hcell.out wr 4 _ hBw.out rfl
      have c5 := hcell.out wr 5 _ hBw.out rfl
      have hvwh := Lib.hid (hvh.out)
      have hld := ld_mid wr c R i N (some ⟨g, 0, none⟩) c3 c4 c5
      obtain ⟨b8, o8, c8, rfl, _⟩ := hvh.out.ptr (by omega)
      clear z7 hoh hN hM hvh hB3h hmh
      have hra : Hid (RowsAt wr (some ⟨b8, o8, none⟩) i 2 V) := hide (fun x hx => ⟨b8, o8, some ⟨G x, 0, none⟩, cc x, rfl, hvwh.out.cells rfl x _ (rwC_get G cc i x hx), (((hs3h.out.2 x hx).1.below hBh.out (hs3h.out.2 x hx).1.lt)).by⟩)
      go_wp2_with fail
      refine kpk.out.mono ?_
      rintro e w4 (⟨_, g2, rfl, hg2, hm2, hb4⟩ | ⟨h, _⟩)
      · rw [hMh.out]
        have hB4 := Lib.hid (hBw.out.trans (hb4.mono hBw.out.size))
        have hm2h := Lib.hid (hm2.congr (F' := pkF (rsF i) I) (fun r c _ _ => by unfold pkF; simp))
        have hw4 := hB4.out.size
        have hg2l := hm2.lt
        have hra4 := Lib.hid (hra.out.below hb4)
        clear hm2 hb4 c3 c4 c5 hra kpk hld
        go_upto_region 16 with (fail)
        obtain ⟨x0, x1, x2⟩ := boxed w4 #[.int .i64 0, .int .i64 0, .slice none 0 0] #[.int .i64 (i : Nat), .int .i64 (i : Nat), .slice (some ⟨g2, 0, none⟩) M M] 188
        generalize World.setRow (World.alloc w4 _) _ _ = X at *
        obtain ⟨q8, hq8⟩ : ∃ q8, w4.heap.size = q8 := ⟨_, rfl⟩
        have hmX : Hid (MAt X (some ⟨g2, 0, none⟩) i i (pkF (rsF i) I)) := hide (hm2h.out.below x2 hg2l).mat
        have hBX := Lib.hid (hB4.out.trans (x2.mono hw4))
        have hraX := Lib.hid (hra4.out.below x2)
        have hpX := Lib.hid (hph.out.below hBX.out hph.out.lt)
        rw [hq8] at x0 ⊢
        have hX8 : q8 < X.heap.size := (Array.getElem?_eq_some_iff.1 x0).1
        have x0h := Lib.hid x0
        clear x0 x1 x2 hq8 hm2h hra4 hg2l
        have kin := Lib.hid (fun y (hy : IsGf y p) (ha : MAt y (some ⟨g2, 0, none⟩) i i (pkF (rsF i) I)) => m_invert p i (some ⟨g2, 0, none⟩) (i * i) (pkF (rsF i) I) y hy ha (fun e => by cases e) (fun r c => rs_bd i _ _) (by omega))
        rw [hMh.out] at kin
        have hS : Hid (∀ y, Below X.heap.size X y → (fun y : World => y.cell? ⟨c, 2, none⟩ = some (.pointer (some ⟨p, 0, none⟩)) ∧ blk y q8 = some (.cells #[.int .i64 (i : Nat), .int .i64 (i : Nat), .slice (some ⟨g2, 0, none⟩) M M] 188 (0, 0))) y) := hide (fun y hy => ⟨hcell.out y 2 _ (hBX.out.trans (hy.mono hBX.out.size)) rfl, (blk_below hy hX8).trans (blk_of x0h.out)⟩)
        have hBd : Hid (Below X.heap.size X X.drew) := hide (below_drewN (Below.refl _ _) 1)
        go_cut [13, 14] (fun v13 v14 wx => ∃ q g3 : Nat, v13 = .pointer (some ⟨q, 0, none⟩) ∧ v14 = .int .i64 0 ∧ Hid (wx.heap[q]? = some (.cells #[.int .i64 (i : Nat), .int .i64 (i : Nat), .slice (some ⟨g3, 0, none⟩) M M] 188 (0, 0))) ∧ Hid (Below X.heap.size X wx) ∧ Hid (MAt wx (some ⟨g3, 0, none⟩) i i (ivS (pkF (rsF i) I) i i).2))
        case first =>
          refine h_begin 12 (fun y : World => y.cell? ⟨c, 2, none⟩ = some (.pointer (some ⟨p, 0, none⟩)) ∧ blk y q8 = some (.cells #[.int .i64 (i : Nat), .int .i64 (i : Nat), .slice (some ⟨g2, 0, none⟩) M M] 188 (0, 0))) rfl (by kernel_rfl) (hS.out _ hBd.out) ?_
          have hHeld : (fun y : World => y.cell? ⟨c, 2, none⟩ = some (.pointer (some ⟨p, 0, none⟩)) ∧ blk y q8 = some (.cells #[.int .i64 (i : Nat), .int .i64 (i : Nat), .slice (some ⟨g2, 0, none⟩) M M] 188 (0, 0))) X.drew := hS.out _ hBd.out
          first
            | (refine h_run (i := 0) (v := ?_) hHeld rfl (by kernel_rfl) (by kernel_rfl) (by kernel_rfl) ?_ ?_ ?_
               rotate_left
               · rfl
               · (intro x hSx; (try dsimp only at hSx); go_simp <;> with_reducible rfl)
               simp only [Act.put, List.setIfInBounds_toArray, List.set_cons_zero, List.set_cons_succ])
            | (refine h_skip (i := 0) hHeld rfl (by kernel_rfl) (by kernel_rfl) (by kernel_rfl) ?_ ?_
               · rfl
               simp only [Act.put, List.setIfInBounds_toArray, List.set_cons_zero, List.set_cons_succ])
          first
            | (refine h_run (i := 1) (v := ?_) hHeld rfl (by kernel_rfl) (by kernel_rfl) (by kernel_rfl) ?_ ?_ ?_
               rotate_left
               · rfl
               · (intro x hSx; (try dsimp only at hSx); go_simp <;> with_reducible rfl)
               simp only [Act.put, List.setIfInBounds_toArray, List.set_cons_zero, List.set_cons_succ])
            | (refine h_skip (i := 1) hHeld rfl (by kernel_rfl) (by kernel_rfl) (by kernel_rfl) ?_ ?_
               · rfl
               simp only [Act.put, List.setIfInBounds_toArray, List.set_cons_zero, List.set_cons_succ])
          first
            | (refine h_run (i := 2) (v := ?_) hHeld rfl (by kernel_rfl) (by kernel_rfl) (by kernel_rfl) ?_ ?_ ?_
               rotate_left
               · rfl
               · (intro x hSx; (try dsimp only at hSx); go_simp <;> with_reducible rfl)
               simp only [Act.put, List.setIfInBounds_toArray, List.set_cons_zero, List.set_cons_succ])
            | (refine h_skip (i := 2) hHeld rfl (by kernel_rfl) (by kernel_rfl) (by kernel_rfl) ?_ ?_
               · rfl
               simp only [Act.put, List.setIfInBounds_toArray, List.set_cons_zero, List.set_cons_succ])
          first
            | (refine h_run (i := 3) (v := ?_) hHeld rfl (by kernel_rfl) (by kernel_rfl) (by kernel_rfl) ?_ ?_ ?_
               rotate_left
               · rfl
               · (intro x hSx; (try dsimp only at hSx); go_simp <;> with_reducible rfl)
               simp only [Act.put, List.setIfInBounds_toArray, List.set_cons_zero, List.set_cons_succ])
            | (refine h_skip (i := 3) hHeld rfl (by kernel_rfl) (by kernel_rfl) (by kernel_rfl) ?_ ?_
               · rfl
               simp only [Act.put, List.setIfInBounds_toArray, List.set_cons_zero, List.set_cons_succ])
          first
            | (refine h_run (i := 4) (v := ?_) hHeld rfl (by kernel_rfl) (by kernel_rfl) (by kernel_rfl) ?_ ?_ ?_
               rotate_left
               · rfl
               · (intro x hSx; (try dsimp only at hSx); go_simp <;> with_reducible rfl)
               simp only [Act.put, List.setIfInBounds_toArray, List.set_cons_zero, List.set_cons_succ])
            | (refine h_skip (i := 4) hHeld rfl (by kernel_rfl) (by kernel_rfl) (by kernel_rfl) ?_ ?_
               · rfl
               simp only [Act.put, List.setIfInBounds_toArray, List.set_cons_zero, List.set_cons_succ])
          clear hHeld
          have hBa : Hid (Below X.heap.size X (X.drew.alloc (.cells #[.int .i64 0, .int .i64 0, .slice none 0 0] 188))) := hide (hBd.out.alloc hBd.out.size _)
          refine h_ca (i := 5) (j := 9) (w' := X.drew.alloc (.cells #[.int .i64 0, .int .i64 0, .slice none 0 0] 188)) (p := .pointer (some ⟨X.heap.size, 0, none⟩)) [5, 9] (kin.out X.drew (hpX.out.below hBd.out hpX.out.lt) (hmX.out.below hBd.out)) rfl rfl (by kernel_rfl) (by decide) rfl rfl ?_ ?_ (hS.out _ hBa.out) ?_ ?_
          · go_simp <;> with_reducible rfl
          · go_simp <;> with_reducible rfl
          · rintro e w5 ⟨h3, _⟩
            obtain ⟨g3, rfl, hg3, hm3, hb3⟩ := h3 hpvh.out
            rw [hMh.out]
            have hy5 : Below X.heap.size X w5 := hBd.out.trans (hb3.mono hBd.out.size)
            refine ⟨_, rfl, hS.out _ hy5, ?_⟩
            try simp only [Act.put, List.setIfInBounds_toArray, List.set_cons_zero, List.set_cons_succ]
            have hHeld := hS.out _ hy5
            have hm3m := hm3.mat
            clear h3 hm3 hb3
            first
              | (refine h_run (i := 6) (v := ?_) hHeld rfl (by kernel_rfl) (by kernel_rfl) (by kernel_rfl) ?_ ?_ ?_
                 rotate_left
                 · rfl
                 · (intro x hSx; (try dsimp only at hSx); go_simp <;> with_reducible rfl)
                 simp only [Act.put, List.setIfInBounds_toArray, List.set_cons_zero, List.set_cons_succ])
              | (refine h_skip (i := 6) hHeld rfl (by kernel_rfl) (by kernel_rfl) (by kernel_rfl) ?_ ?_
                 · rfl
                 simp only [Act.put, List.setIfInBounds_toArray, List.set_cons_zero, List.set_cons_succ])
            first
              | (refine h_run (i := 7) (v := ?_) hHeld rfl (by kernel_rfl) (by kernel_rfl) (by kernel_rfl) ?_ ?_ ?_
                 rotate_left
                 · rfl
                 · (intro x hSx; (try dsimp only at hSx); go_simp <;> with_reducible rfl)
                 simp only [Act.put, List.setIfInBounds_toArray, List.set_cons_zero, List.set_cons_succ])
              | (refine h_skip (i := 7) hHeld rfl (by kernel_rfl) (by kernel_rfl) (by kernel_rfl) ?_ ?_
                 · rfl
                 simp only [Act.put, List.setIfInBounds_toArray, List.set_cons_zero, List.set_cons_succ])
            first
              | (refine h_run (i := 8) (v := ?_) hHeld rfl (by kernel_rfl) (by kernel_rfl) (by kernel_rfl) ?_ ?_ ?_
                 rotate_left
                 · rfl
                 · (intro x hSx; (try dsimp only at hSx); go_simp <;> with_reducible rfl)
                 simp only [Act.put, List.setIfInBounds_toArray, List.set_cons_zero, List.set_cons_succ])
              | (refine h_skip (i := 8) hHeld rfl (by kernel_rfl) (by kernel_rfl) (by kernel_rfl) ?_ ?_
                 · rfl
                 simp only [Act.put, List.setIfInBounds_toArray, List.set_cons_zero, List.set_cons_succ])
            clear hHeld
            have hal := Lib.hid (hy5.alloc hy5.size (.cells #[.int .i64 0, .int .i64 0, .slice none 0 0] 188))
            refine h_value (i := 9) (v := .pointer (some ⟨w5.heap.size, 0, none⟩)) (w' := w5.alloc (.cells #[.int .i64 0, .int .i64 0, .slice none 0 0] 188)) (fun y : World => y.cell? ⟨c, 2, none⟩ = some (.pointer (some ⟨p, 0, none⟩)) ∧ blk y q8 = some (.cells #[.int .i64 (i : Nat), .int .i64 (i : Nat), .slice (some ⟨g2, 0, none⟩) M M] 188 (0, 0))) (fun _ h => h) rfl (by kernel_rfl) rfl ?_ (hS.out _ hal.out) ?_
            · go_simp <;> with_reducible rfl
            try simp only [Act.put, List.setIfInBounds_toArray, List.set_cons_zero, List.set_cons_succ]
            have hq := last_block0 w5 (.cells #[.int .i64 0, .int .i64 0, .slice none 0 0] 188) _ rfl
            have hBq := hy5.size
            have hm3h := Lib.hid (hm3m.below (below_one w5 (.cells #[.int .i64 0, .int .i64 0, .slice none 0 0] 188)))
            have hy := hal.out
            generalize hqe : w5.heap.size = q at *
            generalize World.alloc w5 _ = y at *
            have bq := blk_of hq
            have hyz := Lib.hid (below_setRow hy hBq #[.int .i64 (i : Nat), .int .i64 (i : Nat), .slice (some ⟨g3, 0, none⟩) M M])
            have hqz := Lib.hid (setRow_heap y q _ #[.int .i64 (i : Nat), .int .i64 (i : Nat), .slice (some ⟨g3, 0, none⟩) M M] 188 (0, 0) hq)
            have hmz := Lib.hid (mat_setBox2 hm3h.out hq #[.int .i64 (i : Nat), .int .i64 (i : Nat), .slice (some ⟨g3, 0, none⟩) M M])
            clear hq
            refine h_write (i := 10) (w' := y.setRow q #[.int .i64 (i : Nat), .int .i64 (i : Nat), .slice (some ⟨g3, 0, none⟩) M M]) (fun y : World => y.cell? ⟨c, 2, none⟩ = some (.pointer (some ⟨p, 0, none⟩)) ∧ blk y q8 = some (.cells #[.int .i64 (i : Nat), .int .i64 (i : Nat), .slice (some ⟨g2, 0, none⟩) M M] 188 (0, 0))) (fun _ h => h) rfl (by kernel_rfl) rfl ?_ (hS.out _ hyz.out) ?_
            · go_simp <;> with_reducible rfl
            try simp only [Act.put, List.setIfInBounds_toArray, List.set_cons_zero, List.set_cons_succ]
            have hHeld : (fun y : World => y.cell? ⟨c, 2, none⟩ = some (.pointer (some ⟨p, 0, none⟩)) ∧ blk y q8 = some (.cells #[.int .i64 (i : Nat), .int .i64 (i : Nat), .slice (some ⟨g2, 0, none⟩) M M] 188 (0, 0))) (y.setRow q #[.int .i64 (i : Nat), .int .i64 (i : Nat), .slice (some ⟨g3, 0, none⟩) M M]) := hS.out _ hyz.out
            first
              | (refine h_run (i := 11) (v := ?_) hHeld rfl (by kernel_rfl) (by kernel_rfl) (by kernel_rfl) ?_ ?_ ?_
                 rotate_left
                 · rfl
                 · (intro x hSx; (try dsimp only at hSx); go_simp <;> with_reducible rfl)
                 simp only [Act.put, List.setIfInBounds_toArray, List.set_cons_zero, List.set_cons_succ])
              | (refine h_skip (i := 11) hHeld rfl (by kernel_rfl) (by kernel_rfl) (by kernel_rfl) ?_ ?_
                 · rfl
                 simp only [Act.put, List.setIfInBounds_toArray, List.set_cons_zero, List.set_cons_succ])
            clear hHeld bq
            refine h_done (by kernel_rfl) ?_
            try simp only [Act.put, List.setIfInBounds_toArray, List.set_cons_zero, List.set_cons_succ]
            go_wp2_with fail
            go_meet
            exact ⟨q, g3, rfl, rfl, hqz, hyz, hmz⟩
          · try simp only [Act.put, List.setIfInBounds_toArray, List.set_cons_zero, List.set_cons_succ]
            have hq5 := last_block0 X.drew (.cells #[.int .i64 0, .int .i64 0, .slice none 0 0] 188) _ rfl
            have hm5 := (hmX.out.below hBd.out).below (below_one X.drew (.cells #[.int .i64 0, .int .i64 0, .slice none 0 0] 188))
            have hq5l : X.heap.size < (X.drew.alloc (.cells #[.int .i64 0, .int .i64 0, .slice none 0 0] 188)).heap.size := by show _ < (X.drew.heap.push _).size; rw [Array.size_push]; exact Nat.lt_succ_self _
            obtain ⟨q, hqe⟩ : ∃ q, X.heap.size = q := ⟨_, rfl⟩
            have hq5 : (X.drew.alloc (.cells #[.int .i64 0, .int .i64 0, .slice none 0 0] 188)).heap[q]? = some (.cells #[.int .i64 0, .int .i64 0, .slice none 0 0] 188 (0, 0)) := by rw [← hqe]; exact hq5
            generalize World.alloc X.drew _ = y5 at *
            refine h_call (i := 5) (fun y : World => y.cell? ⟨c, 2, none⟩ = some (.pointer (some ⟨p, 0, none⟩)) ∧ blk y q8 = some (.cells #[.int .i64 (i : Nat), .int .i64 (i : Nat), .slice (some ⟨g2, 0, none⟩) M M] 188 (0, 0))) (fun _ h => h) (kin.out y5 (hpX.out.below hBa.out hpX.out.lt) hm5) rfl (by kernel_rfl) rfl ?_ ?_
            · go_simp <;> with_reducible rfl
            rintro e y ⟨h3, _⟩
            obtain ⟨g3, rfl, hg3, hm3, hb3⟩ := h3 hpvh.out
            rw [hMh.out]
            have hy : Below X.heap.size X y := hBa.out.trans (hb3.mono hBa.out.size)
            refine ⟨_, rfl, hS.out _ hy, ?_⟩
            try simp only [Act.put, List.setIfInBounds_toArray, List.set_cons_zero, List.set_cons_succ]
            have hHeld := hS.out _ hy
            have hm3h := Lib.hid hm3.mat
            have hq := (hb3.block q (by rw [← hqe]; exact hq5l)).trans hq5
            have hBq : X.heap.size ≤ q := by omega
            clear h3 hm3 hb3 hq5 hm5
            first
              | (refine h_run (i := 6) (v := ?_) hHeld rfl (by kernel_rfl) (by kernel_rfl) (by kernel_rfl) ?_ ?_ ?_
                 rotate_left
                 · rfl
                 · (intro x hSx; (try dsimp only at hSx); go_simp <;> with_reducible rfl)
                 simp only [Act.put, List.setIfInBounds_toArray, List.set_cons_zero, List.set_cons_succ])
              | (refine h_skip (i := 6) hHeld rfl (by kernel_rfl) (by kernel_rfl) (by kernel_rfl) ?_ ?_
                 · rfl
                 simp only [Act.put, List.setIfInBounds_toArray, List.set_cons_zero, List.set_cons_succ])
            first
              | (refine h_run (i := 7) (v := ?_) hHeld rfl (by kernel_rfl) (by kernel_rfl) (by kernel_rfl) ?_ ?_ ?_
                 rotate_left
                 · rfl
                 · (intro x hSx; (try dsimp only at hSx); go_simp <;> with_reducible rfl)
                 simp only [Act.put, List.setIfInBounds_toArray, List.set_cons_zero, List.set_cons_succ])
              | (refine h_skip (i := 7) hHeld rfl (by kernel_rfl) (by kernel_rfl) (by kernel_rfl) ?_ ?_
                 · rfl
                 simp only [Act.put, List.setIfInBounds_toArray, List.set_cons_zero, List.set_cons_succ])
            first
              | (refine h_run (i := 8) (v := ?_) hHeld rfl (by kernel_rfl) (by kernel_rfl) (by kernel_rfl) ?_ ?_ ?_
                 rotate_left
                 · rfl
                 · (intro x hSx; (try dsimp only at hSx); go_simp <;> with_reducible rfl)
                 simp only [Act.put, List.setIfInBounds_toArray, List.set_cons_zero, List.set_cons_succ])
              | (refine h_skip (i := 8) hHeld rfl (by kernel_rfl) (by kernel_rfl) (by kernel_rfl) ?_ ?_
                 · rfl
                 simp only [Act.put, List.setIfInBounds_toArray, List.set_cons_zero, List.set_cons_succ])
            clear hHeld
            rw [hqe]
            have bq := blk_of hq
            have hyz := Lib.hid (below_setRow hy hBq #[.int .i64 (i : Nat), .int .i64 (i : Nat), .slice (some ⟨g3, 0, none⟩) M M])
            have hqz := Lib.hid (setRow_heap y q _ #[.int .i64 (i : Nat), .int .i64 (i : Nat), .slice (some ⟨g3, 0, none⟩) M M] 188 (0, 0) hq)
            have hmz := Lib.hid (mat_setBox2 hm3h.out hq #[.int .i64 (i : Nat), .int .i64 (i : Nat), .slice (some ⟨g3, 0, none⟩) M M])
            clear hq
            refine h_write (i := 10) (w' := y.setRow q #[.int .i64 (i : Nat), .int .i64 (i : Nat), .slice (some ⟨g3, 0, none⟩) M M]) (fun y : World => y.cell? ⟨c, 2, none⟩ = some (.pointer (some ⟨p, 0, none⟩)) ∧ blk y q8 = some (.cells #[.int .i64 (i : Nat), .int .i64 (i : Nat), .slice (some ⟨g2, 0, none⟩) M M] 188 (0, 0))) (fun _ h => h) rfl (by kernel_rfl) rfl ?_ (hS.out _ hyz.out) ?_
            · go_simp <;> with_reducible rfl
            try simp only [Act.put, List.setIfInBounds_toArray, List.set_cons_zero, List.set_cons_succ]
            have hHeld : (fun y : World => y.cell? ⟨c, 2, none⟩ = some (.pointer (some ⟨p, 0, none⟩)) ∧ blk y q8 = some (.cells #[.int .i64 (i : Nat), .int .i64 (i : Nat), .slice (some ⟨g2, 0, none⟩) M M] 188 (0, 0))) (y.setRow q #[.int .i64 (i : Nat), .int .i64 (i : Nat), .slice (some ⟨g3, 0, none⟩) M M]) := hS.out _ hyz.out
            first
              | (refine h_run (i := 11) (v := ?_) hHeld rfl (by kernel_rfl) (by kernel_rfl) (by kernel_rfl) ?_ ?_ ?_
                 rotate_left
                 · rfl
                 · (intro x hSx; (try dsimp only at hSx); go_simp <;> with_reducible rfl)
                 simp only [Act.put, List.setIfInBounds_toArray, List.set_cons_zero, List.set_cons_succ])
              | (refine h_skip (i := 11) hHeld rfl (by kernel_rfl) (by kernel_rfl) (by kernel_rfl) ?_ ?_
                 · rfl
                 simp only [Act.put, List.setIfInBounds_toArray, List.set_cons_zero, List.set_cons_succ])
            clear hHeld bq
            refine h_done (by kernel_rfl) ?_
            try simp only [Act.put, List.setIfInBounds_toArray, List.set_cons_zero, List.set_cons_succ]
            go_wp2_with fail
            go_meet
            exact ⟨q, g3, rfl, rfl, hqz, hyz, hmz⟩
        case rest =>
          obtain ⟨q, g3, rfl, rfl, hq, hy, hm3⟩ := hcut
          have hqlt := (Array.getElem?_eq_some_iff.1 hq.out).1
          have hBw2 := Lib.hid (hBX.out.trans (hy.out.mono hBX.out.size))
          have hS2 : Hid (∀ y, Below wc.heap.size wc y → (fun y : World => y.cell? ⟨c, 2, none⟩ = some (.pointer (some ⟨p, 0, none⟩)) ∧ blk y q = some (.cells #[.int .i64 (i : Nat), .int .i64 (i : Nat), .slice (some ⟨g3, 0, none⟩) M M] 188 (0, 0))) y) := hide (fun y hy2 => ⟨hcell.out y 2 _ (hBw2.out.trans (hy2.mono hBw2.out.size)) rfl, (blk_below hy2 hqlt).trans (blk_of hq.out)⟩)
          have hBd2 : Hid (Below wc.heap.size wc wc.drew) := hide (below_drewN (Below.refl _ _) 1)
          have kap := Lib.hid (m_apply2 p i i 2 (some ⟨g3, 0, none⟩) (some ⟨b8, o8, none⟩) (i * i) c8 (ivS (pkF (rsF i) I) i i).2 V wc.drew (hph.out.below (hBw2.out.trans (hBd2.out.mono hBw2.out.size)) hph.out.lt) (hm3.out.below hBd2.out) ((hraX.out.below hy.out).below hBd2.out) (iv_bd (pkF (rsF i) I) (fun r c => rs_bd i _ _) i i).2 hVh.out (by omega) (by omega) (Nat.le_refl _) (by omega) (fun e => by omega))
          rw [hMh.out] at kap
          go_upto_region 19 with (fail)
          refine h_begin 11 (fun y : World => y.cell? ⟨c, 2, none⟩ = some (.pointer (some ⟨p, 0, none⟩)) ∧ blk y q = some (.cells #[.int .i64 (i : Nat), .int .i64 (i : Nat), .slice (some ⟨g3, 0, none⟩) M M] 188 (0, 0))) rfl (by kernel_rfl) (hS2.out _ hBd2.out) ?_
          have hHeld : (fun y : World => y.cell? ⟨c, 2, none⟩ = some (.pointer (some ⟨p, 0, none⟩)) ∧ blk y q = some (.cells #[.int .i64 (i : Nat), .int .i64 (i : Nat), .slice (some ⟨g3, 0, none⟩) M M] 188 (0, 0))) wc.drew := hS2.out _ hBd2.out
          first
            | (refine h_run (i := 0) (v := ?_) hHeld rfl (by kernel_rfl) (by kernel_rfl) (by kernel_rfl) ?_ ?_ ?_
               rotate_left
               · rfl
               · (intro x hSx; (try dsimp only at hSx); go_simp <;> with_reducible rfl)
               simp only [Act.put, List.setIfInBounds_toArray, List.set_cons_zero, List.set_cons_succ])
            | (refine h_skip (i := 0) hHeld rfl (by kernel_rfl) (by kernel_rfl) (by kernel_rfl) ?_ ?_
               · rfl
               simp only [Act.put, List.setIfInBounds_toArray, List.set_cons_zero, List.set_cons_succ])
          first
            | (refine h_run (i := 1) (v := ?_) hHeld rfl (by kernel_rfl) (by kernel_rfl) (by kernel_rfl) ?_ ?_ ?_
               rotate_left
               · rfl
               · (intro x hSx; (try dsimp only at hSx); go_simp <;> with_reducible rfl)
               simp only [Act.put, List.setIfInBounds_toArray, List.set_cons_zero, List.set_cons_succ])
            | (refine h_skip (i := 1) hHeld rfl (by kernel_rfl) (by kernel_rfl) (by kernel_rfl) ?_ ?_
               · rfl
               simp only [Act.put, List.setIfInBounds_toArray, List.set_cons_zero, List.set_cons_succ])
          first
            | (refine h_run (i := 2) (v := ?_) hHeld rfl (by kernel_rfl) (by kernel_rfl) (by kernel_rfl) ?_ ?_ ?_
               rotate_left
               · rfl
               · (intro x hSx; (try dsimp only at hSx); go_simp <;> with_reducible rfl)
               simp only [Act.put, List.setIfInBounds_toArray, List.set_cons_zero, List.set_cons_succ])
            | (refine h_skip (i := 2) hHeld rfl (by kernel_rfl) (by kernel_rfl) (by kernel_rfl) ?_ ?_
               · rfl
               simp only [Act.put, List.setIfInBounds_toArray, List.set_cons_zero, List.set_cons_succ])
          first
            | (refine h_run (i := 3) (v := ?_) hHeld rfl (by kernel_rfl) (by kernel_rfl) (by kernel_rfl) ?_ ?_ ?_
               rotate_left
               · rfl
               · (intro x hSx; (try dsimp only at hSx); go_simp <;> with_reducible rfl)
               simp only [Act.put, List.setIfInBounds_toArray, List.set_cons_zero, List.set_cons_succ])
            | (refine h_skip (i := 3) hHeld rfl (by kernel_rfl) (by kernel_rfl) (by kernel_rfl) ?_ ?_
               · rfl
               simp only [Act.put, List.setIfInBounds_toArray, List.set_cons_zero, List.set_cons_succ])
          first
            | (refine h_run (i := 4) (v := ?_) hHeld rfl (by kernel_rfl) (by kernel_rfl) (by kernel_rfl) ?_ ?_ ?_
               rotate_left
               · rfl
               · (intro x hSx; (try dsimp only at hSx); go_simp <;> with_reducible rfl)
               simp only [Act.put, List.setIfInBounds_toArray, List.set_cons_zero, List.set_cons_succ])
            | (refine h_skip (i := 4) hHeld rfl (by kernel_rfl) (by kernel_rfl) (by kernel_rfl) ?_ ?_
               · rfl
               simp only [Act.put, List.setIfInBounds_toArray, List.set_cons_zero, List.set_cons_succ])
          first
            | (refine h_run (i := 5) (v := ?_) hHeld rfl (by kernel_rfl) (by kernel_rfl) (by kernel_rfl) ?_ ?_ ?_
               rotate_left
               · rfl
               · (intro x hSx; (try dsimp only at hSx); go_simp <;> with_reducible rfl)
               simp only [Act.put, List.setIfInBounds_toArray, List.set_cons_zero, List.set_cons_succ])
            | (refine h_skip (i := 5) hHeld rfl (by kernel_rfl) (by kernel_rfl) (by kernel_rfl) ?_ ?_
               · rfl
               simp only [Act.put, List.setIfInBounds_toArray, List.set_cons_zero, List.set_cons_succ])
          clear hHeld
          refine h_call (i := 6) (fun y : World => y.cell? ⟨c, 2, none⟩ = some (.pointer (some ⟨p, 0, none⟩)) ∧ blk y q = some (.cells #[.int .i64 (i : Nat), .int .i64 (i : Nat), .slice (some ⟨g3, 0, none⟩) M M] 188 (0, 0))) (fun _ h => h) kap.out rfl (by kernel_rfl) rfl ?_ ?_
          · go_simp <;> with_reducible rfl
          rintro e w5 ⟨g5, rfl, hg5, hap, hb5⟩
          have hBf := hBw2.out.trans ((hBd2.out.trans (hb5.mono hBd2.out.size)).mono hBw2.out.size)
          have hfin : Hid (ApPost2 w i 2 (mlF (ivS (pkF (rsF i) I) i i).2 V i) (.returned (.tuple #[.slice (some ⟨g5, 0, none⟩) i i, .int .i64 0])) w5) := hide ⟨g5, rfl, by have h1 := hBw2.out.size; have h2 := hBd2.out.size; omega, hap, hBf⟩
          have hHeld : (fun y : World => y.cell? ⟨c, 2, none⟩ = some (.pointer (some ⟨p, 0, none⟩)) ∧ blk y q = some (.cells #[.int .i64 (i : Nat), .int .i64 (i : Nat), .slice (some ⟨g3, 0, none⟩) M M] 188 (0, 0))) w5 := hS2.out _ (hBd2.out.trans (hb5.mono hBd2.out.size))
          refine ⟨_, rfl, hHeld, ?_⟩
          try simp only [Act.put, List.setIfInBounds_toArray, List.set_cons_zero, List.set_cons_succ]
          clear hap hb5 hBf
          first
            | (refine h_run (i := 7) (v := ?_) hHeld rfl (by kernel_rfl) (by kernel_rfl) (by kernel_rfl) ?_ ?_ ?_
               rotate_left
               · rfl
               · (intro x hSx; (try dsimp only at hSx); go_simp <;> with_reducible rfl)
               simp only [Act.put, List.setIfInBounds_toArray, List.set_cons_zero, List.set_cons_succ])
            | (refine h_skip (i := 7) hHeld rfl (by kernel_rfl) (by kernel_rfl) (by kernel_rfl) ?_ ?_
               · rfl
               simp only [Act.put, List.setIfInBounds_toArray, List.set_cons_zero, List.set_cons_succ])
          first
            | (refine h_run (i := 8) (v := ?_) hHeld rfl (by kernel_rfl) (by kernel_rfl) (by kernel_rfl) ?_ ?_ ?_
               rotate_left
               · rfl
               · (intro x hSx; (try dsimp only at hSx); go_simp <;> with_reducible rfl)
               simp only [Act.put, List.setIfInBounds_toArray, List.set_cons_zero, List.set_cons_succ])
            | (refine h_skip (i := 8) hHeld rfl (by kernel_rfl) (by kernel_rfl) (by kernel_rfl) ?_ ?_
               · rfl
               simp only [Act.put, List.setIfInBounds_toArray, List.set_cons_zero, List.set_cons_succ])
          first
            | (refine h_run (i := 9) (v := ?_) hHeld rfl (by kernel_rfl) (by kernel_rfl) (by kernel_rfl) ?_ ?_ ?_
               rotate_left
               · rfl
               · (intro x hSx; (try dsimp only at hSx); go_simp <;> with_reducible rfl)
               simp only [Act.put, List.setIfInBounds_toArray, List.set_cons_zero, List.set_cons_succ])
            | (refine h_skip (i := 9) hHeld rfl (by kernel_rfl) (by kernel_rfl) (by kernel_rfl) ?_ ?_
               · rfl
               simp only [Act.put, List.setIfInBounds_toArray, List.set_cons_zero, List.set_cons_succ])
          first
            | (refine h_run (i := 10) (v := ?_) hHeld rfl (by kernel_rfl) (by kernel_rfl) (by kernel_rfl) ?_ ?_ ?_
               rotate_left
               · rfl
               · (intro x hSx; (try dsimp only at hSx); go_simp <;> with_reducible rfl)
               simp only [Act.put, List.setIfInBounds_toArray, List.set_cons_zero, List.set_cons_succ])
            | (refine h_skip (i := 10) hHeld rfl (by kernel_rfl) (by kernel_rfl) (by kernel_rfl) ?_ ?_
               · rfl
               simp only [Act.put, List.setIfInBounds_toArray, List.set_cons_zero, List.set_cons_succ])
          refine h_done (by kernel_rfl) ?_
          clear hHeld
          try simp only [Act.put, List.setIfInBounds_toArray, List.set_cons_zero, List.set_cons_succ]
          go_wp2_with fail
          go_ret2
          exact hfin.out
      · exact absurd h (Nat.lt_irrefl _)
end Go.Proofs.Ytmfagdbocidfjaa

/- The window of groups: its cells. Conditions: what the blocks hold. -/
namespace Go.Proofs.Ytmfagdbocidfjaa
open Go.RowKit
/-- a part's cells where nothing came -/
def pz : Nat → Value
  | 0 => .bool false
  | 1 => .int .u32 0
  | 2 => .int .i64 0
  | 3 => .int .i64 0
  | 4 => .slice none 0 0
  | 5 => .slice none 0 0
  | _ => .bool false
/-- a window's cells: tables, base, frames, what is ready; the part 'base' reads as q, all others as new -/
def WinC (C : Array Value) (p base fr : Nat) (rdy : Value) (d m : Int) (q : Nat → Value) : Prop :=
  C.size = 230 ∧ C[0]? = some (.pointer (some ⟨p, 0, none⟩)) ∧ C[1]? = some (.int .u32 (base : Nat)) ∧ C[2]? = some (.int .i64 (fr : Nat)) ∧ C[227]? = some rdy ∧ C[228]? = some (.int .i64 d) ∧ C[229]? = some (.int .i64 m) ∧
    ∀ k j, k < 32 → j < 7 → C[3 + k * 7 + j]? = some (if k = base then q j else pz j)
def WinAt (w : World) (x p base fr : Nat) (rdy : Value) (d m : Int) (q : Nat → Value) : Prop := ∃ C, w.heap[x]? = some (.cells C 117 (0, 0)) ∧ WinC C p base fr rdy d m q
set_option maxRecDepth 100000 in
set_option maxHeartbeats 4000000 in
theorem re_frames (x p base fr : Nat) (rdy : Value) (d m : Int) (q : Nat → Value) (w : World) (h : WinAt w x p base fr rdy d m q) :
    Calls Try.prog 27 #[.pointer (some ⟨x, 0, none⟩)] w (fun e w' => e = .returned (.int .i64 (fr : Nat)) ∧ w = w') := by
  obtain ⟨C, h1, h2⟩ := h
  have c2 := (cell_of_block h1).trans h2.2.2.2.1
  clear h1 h2
  go_enter Try.func27, Try.ntmps27
  go_wp2_with fail
  go_ret
  exact ⟨rfl, rfl⟩
set_option maxRecDepth 100000 in
theorem WinC.ready {C : Array Value} {p base fr : Nat} {rdy : Value} {d m : Int} {q : Nat → Value} (h : WinC C p base fr rdy d m q) (v : Value) : WinC (C.setIfInBounds 227 v) p base fr v d m q := by
  obtain ⟨h1, h2, h3, h4, h5, h6, h7, h8⟩ := h
  refine ⟨by simp [h1], ?_, ?_, ?_, ?_, ?_, ?_, fun k j hk hj => ?_⟩
  · rw [Array.getElem?_setIfInBounds, if_neg (by omega)]; exact h2
  · rw [Array.getElem?_setIfInBounds, if_neg (by omega)]; exact h3
  · rw [Array.getElem?_setIfInBounds, if_neg (by omega)]; exact h4
  · rw [Array.getElem?_setIfInBounds, if_pos rfl, if_pos (by omega)]
  · rw [Array.getElem?_setIfInBounds, if_neg (by omega)]; exact h6
  · rw [Array.getElem?_setIfInBounds, if_neg (by omega)]; exact h7
  · rw [Array.getElem?_setIfInBounds, if_neg (by omega)]; exact h8 k j hk hj
set_option maxRecDepth 100000 in
set_option maxHeartbeats 4000000 in
theorem re_ready (x p base fr : Nat) (rdy : Value) (d m : Int) (q : Nat → Value) (w : World) (h : WinAt w x p base fr rdy d m q) :
    Calls Try.prog 26 #[.pointer (some ⟨x, 0, none⟩)] w (fun e w' => e = .returned rdy ∧ WinAt w' x p base fr (.slice none 0 0) d m q ∧ w.grownBy w' (some x)) := by
  obtain ⟨C, h1, h2⟩ := h
  have c7 := (cell_of_block h1).trans h2.2.2.2.2.1
  have f7 := frozen_of_row w x 227 _ _ h1
  have hend : Hid (WinAt (w.setCell ⟨x, 227, none⟩ (.slice none 0 0)) x p base fr (.slice none 0 0) d m q ∧ w.grownBy (w.setCell ⟨x, 227, none⟩ (.slice none 0 0)) (some x)) := hide ⟨⟨_, blk_set h1 227 _, h2.ready _⟩, only_set (only_refl w (some x)) 227 _⟩
  clear h1 h2
  go_enter Try.func26, Try.ntmps26
  go_wp2_with fail
  go_ret
  exact ⟨rfl, hend.out⟩
set_option maxRecDepth 100000 in
set_option maxHeartbeats 4000000 in
theorem re_place (x p base fr : Nat) (rdy : Value) (d m : Int) (q : Nat → Value) (w : World) (h : WinAt w x p base fr rdy d m q) (hb : base < 32) :
    Calls Try.prog 56 #[.pointer (some ⟨x, 0, none⟩), .int .u32 (base : Nat)] w (fun e w' => e = .returned (.tuple #[.pointer (some ⟨x, 3 + base * 7, none⟩), .int .i64 0]) ∧ w = w') := by
  obtain ⟨C, h1, h2⟩ := h
  have c1 := (cell_of_block h1).trans h2.2.2.1
  have hbe : behindZ (base : Int) (base : Int) = 0 := by unfold behindZ; simp
  have hk := Lib.hid (w_behind (base : Int) (base : Int) w)
  rw [hbe] at hk
  have hm : (base : Int).tmod 32 = (base : Int) := by rw [Int.tmod_eq_emod_of_nonneg (by omega)]; omega
  have hm2 : IntKind.u32.wrap (base : Int) = (base : Int) := IntWalk.u32_in _ (by omega)
  have hm3 : (base : Int) < 32 := by omega
  clear h1 h2 hbe
  go_enter Try.func56, Try.ntmps56
  go_wp2_with fail
  refine hk.out.mono ?_
  rintro _ w2 ⟨rfl, rfl⟩
  go_wp2_with fail
  go_ret2
  exact ⟨rfl, rfl⟩
end Go.Proofs.Ytmfagdbocidfjaa
