/- The contracts of the document's and of package matrix's Mul. Conditions: what the slices read as. -/
import Derived.Test.YtkcalgolanpjaaaMatLaw
namespace Go.Proofs.Ytkcalgolanpjaaa
open Go.RowKit
theorem ret_sameM {P : Program} {f : FuncId} {args : Array Value} {w : World} {v : Value} (h : Calls P f args w fun e w' => e = .returned v ∧ w = w') : Calls P f args w (Ret w v) :=
  h.mono fun _ _ ⟨he, hn⟩ => ⟨he, by rw [← hn]; exact Below.refl _ _⟩
/-- the first n products, together -/
def dtF (F G : Nat → Nat → Nat) (i k : Nat) : Nat → Nat
  | 0 => 0
  | n + 1 => dtF F G i k n ^^^ rmul (F i n) (G n k)
theorem dt_zero (F G : Nat → Nat → Nat) (i k : Nat) : dtF F G i k 0 = 0 := by rw [dtF]
theorem dt_next (F G : Nat → Nat → Nat) (i k n : Nat) : dtF F G i k (n + 1) = dtF F G i k n ^^^ rmul (F i n) (G n k) := by rw [dtF]
theorem dt_lt (F G : Nat → Nat → Nat) (i k n : Nat) : dtF F G i k n < 256 := by
  induction n with
  | zero => rw [dtF]; decide
  | succ n ih => rw [dtF]; exact xor_lt256 ih (rmul_lt _ _)
def mlF (F G : Nat → Nat → Nat) (K i k : Nat) : Nat := dtF F G i k K
theorem ml_bd (F G : Nat → Nat → Nat) (K : Nat) : Bd2 (mlF F G K) := fun _ _ => dt_lt _ _ _ _ _
theorem three_allocs (w : World) (A B C : Obj) : (((w.alloc A).alloc B).alloc C).heap[w.heap.size]? = some A ∧ (((w.alloc A).alloc B).alloc C).heap[w.heap.size + 1]? = some B ∧ (((w.alloc A).alloc B).alloc C).heap[w.heap.size + 2]? = some C ∧ (((w.alloc A).alloc B).alloc C).heap.size = w.heap.size + 3 ∧ Below w.heap.size w (((w.alloc A).alloc B).alloc C) := by
  have s1 : ∀ (u : World) (o : Obj), (u.alloc o).heap.size = u.heap.size + 1 := fun u o => by show (u.heap.push _).size = _; rw [Array.size_push]
  exact ⟨blk_alloc (blk_alloc (last_block0 _ _ _ rfl) _) _, blk_alloc (last_block0 _ _ _ (s1 _ _).symm) _, last_block0 _ _ _ (by rw [s1, s1]), by rw [s1, s1, s1], (((Below.refl _ _).alloc (Nat.le_refl _) _).alloc (by rw [s1]; omega) _).alloc (by rw [s1, s1]; omega) _⟩
attribute [local irreducible] gexp gtbl glog rmul rinv rpow zexp mixF blk wLoad wLoadRes loadAns wStore wStoreRes storeAns Plain flF BRow MRow IsGf OwnZ zfl dtF
attribute [local go_sem ↓] ld_m0 ld_x0 sto_m0 sto_x0
attribute [local go_sem] ld_m ld_x sto_m sto_x loadAns_some storeAns_some mx_size mx_plain blk_alloc_if blk_setRow_if blk_drew_at blk_drewN_at rowPut_some blk_setCell_if cellPut_some
set_option maxRecDepth 100000 in
set_option maxHeartbeats 8000000 in
theorem x_mul (R K C : Nat) (a b : Option Addr) (ca cb : Nat) (F G : Nat → Nat → Nat) (w : World) (ha : MAt w a R K F) (hb : MAt w b K C G) (hF : Bd2 F) (hG : Bd2 G) (hR : R ≤ 255) (hK : K ≤ 255) (hC : C ≤ 255) :
    Calls Try.prog 20 #[.agg #[.int .i64 (R : Nat), .int .i64 (K : Nat), .slice a (R * K) ca], .agg #[.int .i64 (K : Nat), .int .i64 (C : Nat), .slice b (K * C) cb]] w (XPost w R C (mlF F G K)) := by
  have hz := zeroX
  obtain ⟨h0, h1, h2, hsz, hB⟩ := three_allocs w (.cells #[.int .i64 (R : Nat), .int .i64 (K : Nat), .slice a (R * K) ca] 33) (.cells #[.int .i64 (K : Nat), .int .i64 (C : Nat), .slice b (K * C) cb] 33) (.cells #[.int .i64 0, .int .i64 0, .slice none 0 0] 33)
  have ka := Lib.hid (fun i n W (h : MAt W a R K F) (hi : i < R) (hn : n < K) => x_at R K i n F a ca W h hi hn hR hK)
  have kb := Lib.hid (fun n k W (h : MAt W b K C G) (hn : n < K) (hk : k < C) => x_at K C n k G b cb W h hn hk hK hC)
  have hah := Lib.hid ha
  have hbh := Lib.hid hb
  have hidx := Lib.hid (fun i k (hi : i < R) (hk : k < C) => idx_le hi hk hR hC)
  obtain ⟨NA, hNA⟩ : ∃ NA, R * K = NA := ⟨_, rfl⟩
  obtain ⟨NB, hNB⟩ : ∃ NB, K * C = NB := ⟨_, rfl⟩
  rw [hNA] at ka h0 h1 h2 hsz hB ⊢
  rw [hNB] at kb h0 h1 h2 hsz hB ⊢
  clear ha hb hNA hNB
  go_enter Try.func20, Try.ntmps20
  go_upto_region 1 with (fail)
  generalize World.alloc (World.alloc (World.alloc w _) _) _ = W at *
  have hx0 : w.heap.size < W.heap.size := by omega
  have hx1 : w.heap.size + 1 < W.heap.size := by omega
  have hx2 : w.heap.size + 2 < W.heap.size := by omega
  have h0h := Lib.hid (blk_of h0)
  have h1h := Lib.hid (blk_of h1)
  have h2h := Lib.hid h2
  have hBh := Lib.hid hB
  have hwW : w.heap.size ≤ W.heap.size := by omega
  have c00 : W.cell? ⟨w.heap.size, 0, none⟩ = some (.int .i64 (R : Nat)) := (cell_of_block h0).trans rfl
  have c11 : W.cell? ⟨w.heap.size + 1, 1, none⟩ = some (.int .i64 (C : Nat)) := (cell_of_block h1).trans rfl
  clear h0 h1 h2 hsz hB
  go_upto_region 2 with (fail)
  obtain ⟨x0, x1, x2⟩ := boxed W #[.int .i64 0, .int .i64 0, .slice none 0 0] #[.int .i64 (R : Nat), .int .i64 (C : Nat), .slice none 0 0] 33
  generalize World.setRow (World.alloc W _) _ _ = X at *
  have hX : Hid (BldAt X W R C (0 * C) none 0 (mlF F G K)) := hide (by rw [Nat.zero_mul]; exact ⟨x0, OwnZ.nil _ _ _ _ _, x2⟩)
  have hS : Hid (∀ y : World, Below W.heap.size W y → (blk y w.heap.size = some (.cells #[.int .i64 (R : Nat), .int .i64 (K : Nat), .slice a NA ca] 33 (0, 0)) ∧ blk y (w.heap.size + 1) = some (.cells #[.int .i64 (K : Nat), .int .i64 (C : Nat), .slice b NB cb] 33 (0, 0)) ∧ Below W.heap.size W y)) := hide (fun y hy =>
    ⟨(blk_below hy hx0).trans h0h.out, (blk_below hy hx1).trans h1h.out, hy⟩)
  clear x0 x1 x2 c00 c11
  go_upto_region 3 with (fail)
  go_loopw [6] (fun iv wr => ∃ (i : Nat) (s : Option Addr) (c : Nat), i ≤ R ∧ iv = .int .i64 (i : Nat) ∧ Hid (BldAt wr W R C (i * C) s c (mlF F G K))) (fun iv _ => R - (intOf iv).toNat)
  case atStart => exact ⟨0, none, 0, Nat.zero_le _, rfl, hX⟩
  case round =>
    obtain ⟨i, s0, c0, hi, rfl, hB0⟩ := hrel
    clear hX
    have hs0 := hS.out _ hB0.out.lo
    have cR : wr.cell? ⟨w.heap.size, 0, none⟩ = some (.int .i64 (R : Nat)) := (cell_of_block (blk_heap hs0.1)).trans rfl
    clear hs0
    by_cases hiR : i < R
    · have i1 : (i : Int) < (R : Int) := by omega
      obtain ⟨u0, hu0⟩ : ∃ u0, wr = u0 := ⟨_, rfl⟩
      subst hu0
      generalize wr = u0 at *
      go_upto_region 6 with (fail)
      clear cR
      go_loopw [7] (fun kv wr => ∃ (k : Nat) (s : Option Addr) (c : Nat), k ≤ C ∧ kv = .int .i64 (k : Nat) ∧ Hid (BldAt wr W R C (i * C + k) s c (mlF F G K))) (fun kv _ => C - (intOf kv).toNat)
      case atStart => exact ⟨0, s0, c0, Nat.zero_le _, rfl, hB0⟩
      case round =>
        obtain ⟨k, s, c, hk, rfl, hB1⟩ := hrel
        have hs1 := hS.out _ hB1.out.lo
        have cC : wr.cell? ⟨w.heap.size + 1, 1, none⟩ = some (.int .i64 (C : Nat)) := (cell_of_block (blk_heap hs1.2.1)).trans rfl
        clear hs1
        by_cases hkC : k < C
        · have i2 : (k : Int) < (C : Int) := by omega
          have hd0 := dt_zero F G i k
          obtain ⟨u1, hu1⟩ : ∃ u1, wr = u1 := ⟨_, rfl⟩
          subst hu1
          generalize wr = u1 at *
          have hd0h := Lib.hid hd0
          clear hd0
          go_upto_region 10 with (fail)
          clear cC
          go_loopw [8, 9] (fun cv nv wr => ∃ n : Nat, n ≤ K ∧ nv = .int .i64 (n : Nat) ∧ cv = .int .u8 (dtF F G i k n : Nat) ∧ Hid (Below u1.heap.size u1 wr)) (fun _ nv _ => K - (intOf nv).toNat)
          case atStart => exact ⟨0, Nat.zero_le _, rfl, by rw [hd0h.out]; rfl, hide (Below.refl _ _)⟩
          case round =>
            obtain ⟨n, hn, rfl, rfl, hL⟩ := hrel
            have hlo := Lib.hid (hB1.out.below hL.out).lo
            have hs2 := hS.out _ hlo.out
            have cK : wr.cell? ⟨w.heap.size, 1, none⟩ = some (.int .i64 (K : Nat)) := (cell_of_block (blk_heap hs2.1)).trans rfl
            clear hs2
            by_cases hnK : n < K
            · have i3 : (n : Int) < (K : Int) := by omega
              have hFi := hF i n
              have hGn := hG n k
              have hMa := Lib.hid (fun y (h : Below W.heap.size W y) => hah.out.below (hBh.out.trans (h.mono hwW)))
              have hMb := Lib.hid (fun y (h : Below W.heap.size W y) => hbh.out.below (hBh.out.trans (h.mono hwW)))
              have kat := Lib.hid (fun (y : World) (h : blk y w.heap.size = some (.cells #[.int .i64 (R : Nat), .int .i64 (K : Nat), .slice a NA ca] 33 (0, 0)) ∧ blk y (w.heap.size + 1) = some (.cells #[.int .i64 (K : Nat), .int .i64 (C : Nat), .slice b NB cb] 33 (0, 0)) ∧ Below wr.heap.size wr y) => ka.out i n y (hMa.out y (below_step hlo.out hlo.out.size h.2.2)) hiR hnK)
              have kbt := Lib.hid (fun (y : World) (h : blk y w.heap.size = some (.cells #[.int .i64 (R : Nat), .int .i64 (K : Nat), .slice a NA ca] 33 (0, 0)) ∧ blk y (w.heap.size + 1) = some (.cells #[.int .i64 (K : Nat), .int .i64 (C : Nat), .slice b NB cb] 33 (0, 0)) ∧ Below wr.heap.size wr y) => kb.out n k y (hMb.out y (below_step hlo.out hlo.out.size h.2.2)) hnK hkC)
              have kmul := Lib.hid (fun (y : World) => ret_sameM (ref_mul (F i n) (G n k) y hFi hGn))
              have hu := u8_xor_nat (dtF F G i k n) (rmul (F i n) (G n k)) (dt_lt F G i k n) (rmul_lt _ _)
              rw [← dt_next] at hu
              have hin : ∀ y : World, Below wr.heap.size wr y → (blk y w.heap.size = some (.cells #[.int .i64 (R : Nat), .int .i64 (K : Nat), .slice a NA ca] 33 (0, 0)) ∧ blk y (w.heap.size + 1) = some (.cells #[.int .i64 (K : Nat), .int .i64 (C : Nat), .slice b NB cb] 33 (0, 0)) ∧ Below wr.heap.size wr y) := fun y hy =>
                ⟨(hS.out y (below_step hlo.out hlo.out.size hy)).1, (hS.out y (below_step hlo.out hlo.out.size hy)).2.1, hy⟩
              have hclh := Lib.hid (fun (x x' : World) (h : blk x w.heap.size = some (.cells #[.int .i64 (R : Nat), .int .i64 (K : Nat), .slice a NA ca] 33 (0, 0)) ∧ blk x (w.heap.size + 1) = some (.cells #[.int .i64 (K : Nat), .int .i64 (C : Nat), .slice b NB cb] 33 (0, 0)) ∧ Below wr.heap.size wr x) (hb : Below x.heap.size x x') => hin x' (below_step h.2.2 h.2.2.size hb))
              have hst := Lib.hid (hin wr.drew (below_drewN (Below.refl _ _) 1))
              clear hin
              generalize rmul (F i n) (G n k) = xm at *
              generalize F i n = xa at *
              generalize G n k = xb at *
              obtain ⟨dn, hdn⟩ : ∃ dn, dtF F G i k (n + 1) = dn := ⟨_, rfl⟩
              rw [hdn] at hu
              have hdnh := Lib.hid hdn
              have huh := Lib.hid hu
              clear hu hdn
              generalize dtF F G i k n = dd at *
              have hu := huh.out
              go_upto_region 12 with (fail)
              refine wp_region_quiet (C := fun x => blk x w.heap.size = some (.cells #[.int .i64 (R : Nat), .int .i64 (K : Nat), .slice a NA ca] 33 (0, 0)) ∧ blk x (w.heap.size + 1) = some (.cells #[.int .i64 (K : Nat), .int .i64 (C : Nat), .slice b NB cb] 33 (0, 0)) ∧ Below wr.heap.size wr x) (by kernel_rfl) (by kernel_rfl) hst.out ?_
              repeat (first
                | (refine q_run (v := ?_) ?_ ?_ ?_
                   rotate_left
                   · rfl
                   · (intro x hSx; (try dsimp only at hSx); go_simp <;> with_reducible rfl)
                   simp only [Act.put, List.setIfInBounds_toArray, List.set_cons_zero, List.set_cons_succ])
                | (refine q_skip ?_ ?_
                   · rfl
                   simp only [Act.put, List.setIfInBounds_toArray, List.set_cons_zero, List.set_cons_succ])
                | (refine q_call (fun x hCx => kat.out x hCx) hclh.out ?_ ?_ ?_
                   · rfl
                   · (intro x hSx; (try dsimp only at hSx); go_simp <;> with_reducible rfl)
                   simp only [Act.put, List.setIfInBounds_toArray, List.set_cons_zero, List.set_cons_succ])
                | (refine q_call (fun x hCx => kbt.out x hCx) hclh.out ?_ ?_ ?_
                   · rfl
                   · (intro x hSx; (try dsimp only at hSx); go_simp <;> with_reducible rfl)
                   simp only [Act.put, List.setIfInBounds_toArray, List.set_cons_zero, List.set_cons_succ])
                | (refine q_call (fun x _ => kmul.out x) hclh.out ?_ ?_ ?_
                   · rfl
                   · (intro x hSx; (try dsimp only at hSx); go_simp <;> with_reducible rfl)
                   simp only [Act.put, List.setIfInBounds_toArray, List.set_cons_zero, List.set_cons_succ]))
              refine wpQuiet_nil ?_
              intro x hSx
              have hfin := Lib.hid (below_step hL.out hL.out.size hSx.2.2)
              clear hSx hclh hst hu
              go_wp2_with fail
              go_roundw
              case rel => exact ⟨n + 1, by omega, by go_num, by rw [hdnh.out], hfin⟩
              case measure => simp [intOf]; omega
            · obtain rfl : n = K := by omega
              have i3 : decide ((n : Int) < (n : Int)) = false := by simp
              have hB2 := Lib.hid (hB1.out.below hL.out)
              have hxz : Hid (((dtF F G i k n : Nat) : Int) = zfl C (mlF F G n) (i * C + k)) := hide (zfl_at C (mlF F G n) i k hkC)
              have hix := hidx.out i k hiR hkC
              have cc2 : wr.cell? ⟨W.heap.size, 2, none⟩ = some (.slice s (i * C + k) c) := (cell_of_block hB2.out.bx).trans rfl
              generalize dtF F G i k n = dd at *
              go_wp2_with (at_builtin; refine wpList_snocX Try.underlying22 infoI8 (by decide) rfl (.tmp 45) (.tmp 47) rfl wr _ (W.heap.size + 1) (i * C + k) (zfl C (mlF F G n)) (dd : Nat) hxz.out rfl rfl rfl hB2.out.own (by omega) hB2.out.size ?_; intro v' w6 ho hgr; obtain ⟨s', c', rfl, hbx2, hput⟩ := hB2.out.put ho hgr; have c2o : w6.cell? ⟨W.heap.size, 2, none⟩ = some (.slice s (i * C + k) c) := (cell_of_block hbx2).trans rfl; have f2o : w6.frozen? ⟨W.heap.size, 2, none⟩ = false := frozen_of_row w6 _ 2 _ _ hbx2; have hputh := Lib.hid hput; clear ho hgr hbx2 hput)
              go_roundw
              case rel => exact ⟨k + 1, s', c', by omega, by go_num, hputh⟩
              case measure => simp [intOf]; omega
        · obtain rfl : k = C := by omega
          have i2 : decide ((k : Int) < (k : Int)) = false := by simp
          have hB2 : Hid (BldAt wr W R k ((i + 1) * k) s c (mlF F G K)) := hide (by rw [Nat.add_mul, Nat.one_mul]; exact hB1.out)
          go_wp2_with fail
          go_roundw
          case rel => exact ⟨i + 1, s, c, by omega, by go_num, hB2⟩
          case measure => simp [intOf]; omega
    · obtain rfl : i = R := by omega
      have i1 : decide ((i : Int) < (i : Int)) = false := by simp
      have hbx := blk_of hB0.out.bx
      have hb1 := (hB0.out.lo.block _ hx2).trans h2h.out
      have hb1b := blk_of hb1
      have hb1h := Lib.hid hb1
      have hlo := Lib.hid (hBh.out.trans (hB0.out.lo.mono hwW))
      obtain ⟨s9, c9, he9, hz9, hn9, _, hnil9⟩ := hB0.out.own.open
      cases he9
      have hmat := Lib.hid (mat_of_z hz9)
      have hlth : Hid (∀ D, MAt (wr.setRow (w.heap.size + 2) D) s0 i C (mlF F G K)) := hide (fun D => mat_setBox hmat.out hb1h.out D)
      clear hb1 hz9
      go_wp2_with fail
      refine bodyPost_ret (v := .agg #[.int .i64 (i : Nat), .int .i64 (C : Nat), .slice s0 (i * C) c0]) (results_cell_row rfl _ _ (w.heap.size + 2) 33 _ (0, 0) _ rfl (setRow_heap _ _ _ _ _ _ hb1h.out) Try.underlying33 rfl rx_info) rfl ⟨s0, c0, rfl, hlth.out _, hnil9, hn9, below_setRow hlo.out (by omega) _⟩
end Go.Proofs.Ytkcalgolanpjaaa
