import Derived.Test.YtmfagdbocidfjaaV21
/- The contract of package matrix's Apply. Conditions: what the slices read as. -/
namespace Go.Proofs.Ytmfagdbocidfjaa
open Go.RowKit
/-- a slice of slices of bytes: m rows of n bytes -/
def RowsAt (w : World) (s : Option Addr) (m n : Nat) (V : Nat → Nat → Nat) : Prop := ∀ i, i < m → ∃ b off a k, s = some ⟨b, off, none⟩ ∧ w.cell? ⟨b, off + i, none⟩ = some (.slice a n k) ∧ By w a n (V i)
set_option maxRecDepth 100000 in
theorem RowsAt.below {w w' : World} {s : Option Addr} {m n : Nat} {V : Nat → Nat → Nat} (h : RowsAt w s m n V) (hb : Below w.heap.size w w') : RowsAt w' s m n V := fun i hi => by
  obtain ⟨b, off, a, k, hs, hc, hy⟩ := h i hi
  exact ⟨b, off, a, k, hs, (hb.cell (p := ⟨b, off + i, none⟩) (cell_block_lt hc)).trans hc, hy.below hb⟩
set_option maxRecDepth 100000 in
theorem RowsAt.congr {w : World} {s : Option Addr} {m n : Nat} {V V' : Nat → Nat → Nat} (h : RowsAt w s m n V) (e : ∀ i j, i < m → j < n → V i j = V' i j) : RowsAt w s m n V' := fun i hi => by
  obtain ⟨b, off, a, k, hs, hc, hy⟩ := h i hi
  exact ⟨b, off, a, k, hs, hc, hy.congr (fun j hj => e i j hi hj)⟩
/-- the lengths of slices of bytes -/
def LensAt (w : World) (s : Option Addr) (m : Nat) (L : Nat → Nat) : Prop := ∀ i, i < m → ∃ b off a k, s = some ⟨b, off, none⟩ ∧ w.cell? ⟨b, off + i, none⟩ = some (.slice a (L i) k)
set_option maxRecDepth 100000 in
theorem LensAt.below {w w' : World} {s : Option Addr} {m : Nat} {L : Nat → Nat} (h : LensAt w s m L) (hb : Below w.heap.size w w') : LensAt w' s m L := fun i hi => by
  obtain ⟨b, off, a, k, hs, hc⟩ := h i hi
  exact ⟨b, off, a, k, hs, (hb.cell (p := ⟨b, off + i, none⟩) (cell_block_lt hc)).trans hc⟩
set_option maxRecDepth 100000 in
theorem infoS : (Try.prog.info? 71).map (fun i => (i.zero, i.size, i.bytes)) = some (some (.slice none 0 0), 1, 24) := by kernel_rfl
set_option maxRecDepth 100000 in
theorem mkS (n : Nat) (hn : n ≤ 100000) (w : World) : (Instr.makeSlice 68 (.int .i64 (n : Int)) (.int .i64 (n : Int))).run Try.prog w = .ok (.slice (some ⟨w.heap.size, 0, none⟩) n n) (w.alloc (.cells (madeCells #[.slice none 0 0] n) 71)) := by
  obtain ⟨i0, hi, hz0, hz1, hz2⟩ := info_parts infoS
  have h := run_make (P := Try.prog) w 68 71 i0 (.slice none 0 0) Try.underlying68 hi hz0 .i64 .i64 (n : Int) (n : Int) (by omega) (by omega) (by rw [hz2]; omega) (by omega)
  simpa [hz1, Value.cells] using h
set_option maxRecDepth 100000 in
theorem madeS_get (n i : Nat) (h : i < n) : (madeCells #[Value.slice none 0 0] n)[i]? = some (.slice none 0 0) := by
  rw [← Array.getElem?_toList, toList_madeCells_one]; simp [h]
set_option maxRecDepth 100000 in
theorem madeS_size (n : Nat) : (madeCells #[Value.slice none 0 0] n).size = n := by
  rw [← Array.length_toList, toList_madeCells_one]; simp
/-- Apply's rows: those ahead of i are done -/
structure ApAt (wr W : World) (g R n i : Nat) (G : Nat → Nat → Nat) (D : Array Value) : Prop where
  b : wr.heap[g]? = some (.cells D 71 (0, 0))
  sz : D.size = R
  done : ∀ r, r < i → ∃ q, D[r]? = some (.slice (some ⟨q, 0, none⟩) n n) ∧ g < q ∧ BRow wr q n (G r)
  rest : ∀ r, i ≤ r → r < R → D[r]? = some (.slice none 0 0)
  lo : Below W.heap.size W wr
set_option maxRecDepth 100000 in
theorem ApAt.lt {wr W : World} {g R n i : Nat} {G : Nat → Nat → Nat} {D : Array Value} (h : ApAt wr W g R n i G D) : g < wr.heap.size := (Array.getElem?_eq_some_iff.1 h.b).1
set_option maxRecDepth 100000 in
theorem size_set0 (w : World) (p : Addr) (v : Value) : (w.setCell p v).heap.size = w.heap.size := by simp [World.setCell]
set_option maxRecDepth 100000 in
theorem ApAt.start (W : World) (R n : Nat) (G : Nat → Nat → Nat) : ApAt (W.alloc (.cells (madeCells #[.slice none 0 0] R) 71)) W W.heap.size R n 0 G (madeCells #[.slice none 0 0] R) :=
  ⟨last_block0 W _ _ rfl, madeS_size R, fun r hr => absurd hr (by omega), fun r _ hr => madeS_get R r hr, below_one W _⟩
set_option maxRecDepth 100000 in
theorem ApAt.next {wr W X w3 : World} {g R n i : Nat} {G : Nat → Nat → Nat} {D : Array Value} (h : ApAt wr W g R n i G D) (hi : i < R) (hW : W.heap.size ≤ g) (o : Obj)
    (hX : Below (wr.heap.size + 1) ((wr.setCell ⟨g, i, none⟩ (.slice (some ⟨wr.heap.size, 0, none⟩) n n)).alloc o) X) (hg : X.grownBy w3 (some wr.heap.size)) (hb : BRow w3 wr.heap.size n (G i)) :
    ApAt w3 W g R n (i + 1) G (D.setIfInBounds i (.slice (some ⟨wr.heap.size, 0, none⟩) n n)) := by
  have hl := h.lt
  have hsz : (wr.setCell ⟨g, i, none⟩ (.slice (some ⟨wr.heap.size, 0, none⟩) n n)).heap.size = wr.heap.size := size_set0 _ _ _
  have hsz2 : ((wr.setCell ⟨g, i, none⟩ (.slice (some ⟨wr.heap.size, 0, none⟩) n n)).alloc o).heap.size = wr.heap.size + 1 := by show (World.heap _ |>.push _).size = _; rw [Array.size_push, hsz]
  have hXs : wr.heap.size + 1 ≤ X.heap.size := by rw [← hsz2]; exact hX.size
  have keep : ∀ q, q < wr.heap.size → q ≠ g → w3.heap[q]? = wr.heap[q]? := fun q hq hqg => by
    rw [hg.block q (by omega) (by intro e; injection e with e; omega), hX.block q (by omega)]
    rw [Below.heap_alloc _ o q (by rw [hsz]; exact hq)]
    exact heap_setCell_other _ ⟨g, i, none⟩ q _ hqg
  have hgb : w3.heap[g]? = some (.cells (D.setIfInBounds i (.slice (some ⟨wr.heap.size, 0, none⟩) n n)) 71 (0, 0)) := by
    rw [hg.block g (by omega) (by intro e; injection e with e; omega), hX.block g (by omega)]
    exact blk_alloc (blk_set h.b i _) o
  refine ⟨hgb, by rw [Array.size_setIfInBounds, h.sz], fun r hr => ?_, fun r h1 h2 => ?_, ?_⟩
  · by_cases e : r = i
    · subst e
      exact ⟨wr.heap.size, by rw [Array.getElem?_setIfInBounds_self_of_lt (by rw [h.sz]; exact hi)], hl, hb⟩
    · obtain ⟨q, h1, h2, h3⟩ := h.done r (by omega)
      exact ⟨q, by rw [Array.getElem?_setIfInBounds_ne (by omega)]; exact h1, h2, h3.stay (keep q h3.lt (by omega))⟩
  · rw [Array.getElem?_setIfInBounds_ne (by omega)]
    exact h.rest r (by omega) h2
  · have h1 : Below W.heap.size W ((wr.setCell ⟨g, i, none⟩ (.slice (some ⟨wr.heap.size, 0, none⟩) n n)).alloc o) := (h.lo.setCell hW _).alloc (by rw [hsz]; exact h.lo.size) o
    exact below_grown (h1.trans (hX.mono (by have := h.lo.size; omega))) (Nat.le_refl _) hg (fun p hp => by cases hp; exact h.lo.size)
set_option maxRecDepth 100000 in
theorem ApAt.rows {wr W : World} {g R n : Nat} {G : Nat → Nat → Nat} {D : Array Value} (h : ApAt wr W g R n R G D) : RowsAt wr (some ⟨g, 0, none⟩) R n G := fun i hi => by
  obtain ⟨q, h1, _, h3⟩ := h.done i hi
  exact ⟨g, 0, some ⟨q, 0, none⟩, n, rfl, by rw [cell_of_block h.b, Nat.zero_add]; exact h1, h3.by⟩
def ApPost (W : World) (R n : Nat) (G : Nat → Nat → Nat) (e : Ending) (W' : World) : Prop := ∃ g, e = .returned (.tuple #[.slice (some ⟨g, 0, none⟩) R R, .int .i64 0]) ∧ W.heap.size ≤ g ∧ RowsAt W' (some ⟨g, 0, none⟩) R n G ∧ Below W.heap.size W W'
/-- the same, with the rows' blocks -/
def ApPost2 (W : World) (R n : Nat) (G : Nat → Nat → Nat) (e : Ending) (W' : World) : Prop := ∃ g, e = .returned (.tuple #[.slice (some ⟨g, 0, none⟩) R R, .int .i64 0]) ∧ W.heap.size ≤ g ∧ (∃ W0 D, ApAt W' W0 g R n R G D) ∧ Below W.heap.size W W'
set_option maxRecDepth 100000 in
theorem ApPost2.to {W W' : World} {R n : Nat} {G : Nat → Nat → Nat} {e : Ending} (h : ApPost2 W R n G e W') : ApPost W R n G e W' := by
  obtain ⟨g, h1, h2, ⟨_, _, h3⟩, h4⟩ := h
  exact ⟨g, h1, h2, h3.rows, h4⟩
def ApNo (W : World) (code : Int) (e : Ending) (W' : World) : Prop := e = .returned (.tuple #[.slice none 0 0, .int .i64 code]) ∧ Below W.heap.size W W'
set_option maxRecDepth 100000 in
theorem size_set (w : World) (p : Addr) (v : Value) : (w.setCell p v).heap.size = w.heap.size := by simp [World.setCell]
def nK (n i : Nat) : Nat := if i = 0 then 0 else n
set_option maxRecDepth 100000 in
theorem nK_zero (n : Nat) : ((nK n 0 : Nat) : Int) = 0 := rfl
set_option maxRecDepth 100000 in
theorem nK_succ (n i : Nat) : nK n (i + 1) = n := rfl
set_option maxRecDepth 100000 in
theorem nK_pos (n i : Nat) (h : 0 < i) : nK n i = n := by unfold nK; rw [if_neg (by omega)]
set_option maxRecDepth 100000 in
theorem mix_dt (F V : Nat → Nat → Nat) (i k n j : Nat) (hj : j < n) : mixF (fun j => dtF F V i j k) (V k) (F i k) 0 (min n n) j = dtF F V i j (k + 1) := by
  unfold mixF
  rw [if_pos (by omega), dt_next, Nat.sub_zero]
attribute [local irreducible] gexp gtbl glog rmul rinv rpow zexp mixF blk wLoad wLoadRes loadAns wStore wStoreRes storeAns Plain flF BRow MRow MAt By IsGf dtF nK RowsAt LensAt
attribute [local go_sem ↓] ld_m0 sto_m0
attribute [local go_sem] ld_m sto_m loadAns_some storeAns_some mx_size mx_plain blk_alloc_if blk_setRow_if blk_drew_at blk_drewN_at rowPut_some blk_setCell_if cellPut_some
set_option maxRecDepth 100000 in
set_option maxHeartbeats 4000000 in
theorem m_apply2 (p R C n : Nat) (a s : Option Addr) (cap scap : Nat) (F V : Nat → Nat → Nat) (w : World) (hp : IsGf w p) (ha : MAt w a R C F) (hs : RowsAt w s C n V) (hF : Bd2 F) (hV : Bd2 V) (hR : R ≤ 255) (hC : C ≤ 255) (hc : R * C ≤ cap) (hn : n ≤ 100000) (h0n : C = 0 → n = 0) :
    Calls Try.prog 103 #[.pointer (some ⟨p, 0, none⟩), .agg #[.int .i64 (R : Nat), .int .i64 (C : Nat), .slice a (R * C) cap], .slice s C scap] w (ApPost2 w R n (mlF F V C)) := by
  have hB := below_one w (.cells #[.int .i64 (R : Nat), .int .i64 (C : Nat), .slice a (R * C) cap] 188)
  have h0 := last_block0 w (.cells #[.int .i64 (R : Nat), .int .i64 (C : Nat), .slice a (R * C) cap] 188) _ rfl
  have hsz : w.heap.size < (w.alloc (.cells #[.int .i64 (R : Nat), .int .i64 (C : Nat), .slice a (R * C) cap] 188)).heap.size := by show _ < (w.heap.push _).size; rw [Array.size_push]; omega
  have hah := Lib.hid ha
  have hph := Lib.hid hp
  have hpl := hp.lt
  have hsh := Lib.hid hs
  have krt := Lib.hid (fun y => right_nat R C hR hC ▸ m_right R C a (R * C) cap y)
  have krm := Lib.hid (fun i y (h : MAt y a R C F) (hi : i < R) => m_row R C i a cap y (h.some (by omega)) hi hR hC hc)
  have krow := Lib.hid (fun i y (h : MAt y a R C F) (hi : i < R) => h.row i hi)
  have kmix := Lib.hid (fun q i k y (t : Option Addr) (ct : Nat) (hy : IsGf y p) (hne : p ≠ q) (hr : BRow y q n (fun j => dtF F V i j k)) (ht : ∀ j, j < n → j < n → ∃ bb off, t = some ⟨bb, off, none⟩ ∧ y.cell? ⟨bb, off + j, none⟩ = some (.int .u8 (V k j : Nat)) ∧ (bb = q → (off + j < 0 ∨ 0 + n ≤ off + j) ∧ off + j < n)) => gf_mixo p q n 0 n n (F i k) t n ct (fun j => dtF F V i j k) (V k) y hy hne hr (by omega) (fun _ => dt_lt _ _ _ _ _) (hV k) ht (hF i k) (by omega) (by omega))
  obtain ⟨N, hNe⟩ : ∃ N, R * C = N := ⟨_, rfl⟩
  rw [hNe] at krt krm h0 hB hsz ⊢
  clear ha hp hs hc hNe
  have t2 := bne_cast_f C
  have hmk : ∀ x : World, (Instr.makeSlice 71 (.int .i64 (n : Int)) (.int .i64 (n : Int))).run Try.prog x = .ok (.slice (some ⟨x.heap.size, 0, none⟩) n n) (x.alloc (.cells (madeCells #[.int .u8 0] n) 5)) := fun x => make_row (P := Try.prog) Try.underlying71 info8 n (by omega) (by decide) x
  have hmkh := Lib.hid hmk
  have hmS := Lib.hid (fun x => mkS R (by omega) x)
  clear hmk
  go_enter Try.func103, Try.ntmps103
  go_upto_region 1 with (fail)
  generalize World.alloc w _ = W at *
  have h0h := Lib.hid (blk_of h0)
  have hBh := Lib.hid hB
  have hwW : w.heap.size ≤ W.heap.size := by omega
  have b0 := h0h.out
  clear h0 hB
  go_wp2_with fail
  refine (krt.out W).mono ?_
  rintro e w2 ⟨rfl, hb2⟩
  have b2 := (blk_below hb2 hsz).trans h0h.out
  have b2h := Lib.hid b2
  have c1 : w2.cell? ⟨w.heap.size, 1, none⟩ = some (.int .i64 (C : Nat)) := (cell_of_block (blk_heap b2)).trans rfl
  have hB2 := Lib.hid (hBh.out.trans (hb2.mono hwW))
  have hw2 : W.heap.size ≤ w2.heap.size := hb2.size
  have hp2 := Lib.hid (hph.out.below hB2.out hpl)
  have ha2 := Lib.hid (hah.out.below hB2.out)
  have hs2 := Lib.hid (hsh.out.below hB2.out)
  clear hb2 b0
  go_upto_region 5 with (fail)
  clear t2 c1
  have hSc : Hid (∀ i, i < C → ∃ b off x k, s = some ⟨b, off, none⟩ ∧ w2.cell? ⟨b, off + i, none⟩ = some (.slice x n k) ∧ By w2 x n (V i)) := hide (by have := hs2.out; unfold RowsAt at this; exact this)
  go_loop [8, 27] (fun v8 v27 => ∃ i : Nat, i ≤ C ∧ v27 = .int .i64 (i : Nat) ∧ v8 = .int .i64 (nK n i : Nat)) (fun _ v27 => C - (intOf v27).toNat)
  case atStart => exact ⟨0, Nat.zero_le _, rfl, by rw [nK_zero]⟩
  case round =>
    obtain ⟨i, hi, rfl, rfl⟩ := hrel
    by_cases hiC : i < C
    · have i1 : (i : Int) < (C : Int) := by omega
      obtain ⟨bb, oo, xx, kk, hse, hcc, _⟩ := hSc.out i hiC
      subst hse
      have hnx := Lib.hid (nK_succ n i)
      by_cases hi0 : 0 < i
      · have e0 : decide ((0 : Int) < (i : Int)) = true := decide_eq_true (by omega)
        have e1 : decide (0 < i) = true := decide_eq_true hi0
        rw [nK_pos n i hi0]
        have e2 := bne_cast_f n
        go_wp2_with fail
        go_round
        case rel => exact ⟨i + 1, by omega, by go_num, by rw [hnx.out]⟩
        case measure => simp [intOf]; omega
      · have e0 : decide ((0 : Int) < (i : Int)) = false := decide_eq_false (by omega)
        have e1 : decide (0 < i) = false := decide_eq_false hi0
        go_wp2_with fail
        go_round
        case rel => exact ⟨i + 1, by omega, by go_num, by rw [hnx.out]⟩
        case measure => simp [intOf]; omega
    · obtain rfl : C = i := by omega
      have i1 : decide ((C : Int) < (C : Int)) = false := by simp
      have hnC : nK n C = n := by
        by_cases h : C = 0
        · rw [h0n h]; unfold nK; split <;> rfl
        · exact nK_pos n C (by omega)
      rw [hnC]
      have c0 : w2.cell? ⟨w.heap.size, 0, none⟩ = some (.int .i64 (R : Nat)) := (cell_of_block (blk_heap b2h.out)).trans rfl
      have hmSo := hmS.out
      clear hnC
      go_upto_region 12 with (fail)
      have hst := Lib.hid (ApAt.start w2 R n (mlF F V C))
      have hal := Lib.hid (below_one w2 (.cells (madeCells #[.slice none 0 0] R) 71))
      obtain ⟨g, hg⟩ : ∃ g, w2.heap.size = g := ⟨_, rfl⟩
      have hW2 := Lib.hid (Nat.le_refl w2.heap.size)
      rw [hg] at hst ⊢
      have hgw : w2.heap.size ≤ g := by omega
      have hghw : w.heap.size < w2.heap.size := by omega
      clear c0 b2 hmSo
      generalize World.alloc w2 _ = Y at *
      go_upto_region 13 with (fail)
      go_loopw [48] (fun v48 wr => ∃ (i : Nat) (D : Array Value), i ≤ R ∧ v48 = .int .i64 (i : Nat) ∧ Hid (ApAt wr w2 g R n i (mlF F V C) D)) (fun v48 _ => R - (intOf v48).toNat)
      case atStart => exact ⟨0, _, Nat.zero_le _, rfl, hst⟩
      case round =>
        obtain ⟨i, D, hi, rfl, hA⟩ := hrel
        clear hst
        by_cases hiR : i < R
        · have i2 : (i : Int) < (R : Int) := by omega
          have hgl := hA.out.lt
          have cg : wr.cell? ⟨g, i, none⟩ = some (.slice none 0 0) := (cell_of_block hA.out.b).trans (hA.out.rest i (Nat.le_refl _) hiR)
          have hmko := hmkh.out
          have cga : ∀ o, (wr.alloc o).cell? ⟨g, i, none⟩ = some (.slice none 0 0) := fun o => (cell_of_block (blk_alloc hA.out.b o)).trans (hA.out.rest i (Nat.le_refl _) hiR)
          have fga : ∀ o, (wr.alloc o).frozen? ⟨g, i, none⟩ = false := fun o => frozen_of_row (wr.alloc o) g i D _ (blk_alloc hA.out.b o)
          have cga2 := cga (.cells (madeCells #[.int .u8 0] n) 5)
          have fga2 := fga (.cells (madeCells #[.int .u8 0] n) 5)
          clear cga fga
          go_upto_region 16 with (fail)
          have hsz0 : (wr.setCell ⟨g, i, none⟩ (.slice (some ⟨wr.heap.size, 0, none⟩) n n)).heap.size = wr.heap.size := size_set _ _ _
          have hrow0 := Lib.hid (brow_made (wr.setCell ⟨g, i, none⟩ (.slice (some ⟨wr.heap.size, 0, none⟩) n n)) n)
          rw [hsz0] at hrow0
          have hY1 : Hid (wr.heap.size + 1 = (World.alloc (wr.setCell ⟨g, i, none⟩ (.slice (some ⟨wr.heap.size, 0, none⟩) n n)) (.cells (madeCells #[.int .u8 0] n) 5)).heap.size) := hide (by show _ = (World.heap _ |>.push _).size; rw [Array.size_push, hsz0])
          have hlY : Hid (Below w2.heap.size w2 (World.alloc (wr.setCell ⟨g, i, none⟩ (.slice (some ⟨wr.heap.size, 0, none⟩) n n)) (.cells (madeCells #[.int .u8 0] n) 5))) := hide ((hA.out.lo.setCell hgw _).alloc (by rw [hsz0]; exact hA.out.lo.size) _)
          have hrow1 : Hid (BRow (World.alloc (wr.setCell ⟨g, i, none⟩ (.slice (some ⟨wr.heap.size, 0, none⟩) n n)) (.cells (madeCells #[.int .u8 0] n) 5)) wr.heap.size n (fun _ => 0)) := hrow0
          have hcg1 : Hid ((World.alloc (wr.setCell ⟨g, i, none⟩ (.slice (some ⟨wr.heap.size, 0, none⟩) n n)) (.cells (madeCells #[.int .u8 0] n) 5)).cell? ⟨g, i, none⟩ = some (.slice (some ⟨wr.heap.size, 0, none⟩) n n)) := hide ((cell_of_block (blk_alloc (blk_set hA.out.b i _) _)).trans (Array.getElem?_setIfInBounds_self_of_lt (by rw [hA.out.sz]; exact hiR)))
          have hnext := Lib.hid (fun X w3 h1 h2 h3 => ApAt.next (X := X) (w3 := w3) hA.out hiR hgw (.cells (madeCells #[.int .u8 0] n) 5) h1 h2 h3)
          generalize hqe : wr.heap.size = q at *
          clear hsz0
          generalize World.alloc (wr.setCell _ _) _ = Z at *
          have hzq : q < Z.heap.size := by have := hY1.out; omega
          have b3 := (blk_below hlY.out hghw).trans b2h.out
          have hqg : g < q := by omega
          have hqw : w2.heap.size ≤ q := by omega
          clear hrow0 hmko cga2 fga2 cg hgl hqe
          go_wp2_with fail
          refine (krm.out i Z (ha2.out.below hlY.out) hiR).mono ?_
          rintro e X ⟨rfl, hbX⟩
          have hbXh := Lib.hid hbX
          have hlX := Lib.hid (below_step hlY.out hlY.out.size hbX)
          have hrowX : Hid (BRow X q n (fun j => dtF F V i j 0)) := hide ((hrow1.out.below hbX hzq).congr (fun j _ => (dt_zero F V i j).symm))
          have hcgX : Hid (X.cell? ⟨g, i, none⟩ = some (.slice (some ⟨q, 0, none⟩) n n)) := hide ((hbX.cell (p := ⟨g, i, none⟩) (show g < _ by omega)).trans hcg1.out)
          have hXs : q < X.heap.size := by have := hbX.size; omega
          have hma := Lib.hid (krow.out i X (ha2.out.below hlX.out) hiR)
          clear hbX b3
          go_upto_region 17 with (fail)
          go_loopw [60] (fun v60 w4 => ∃ k : Nat, k ≤ C ∧ v60 = .int .i64 (k : Nat) ∧ Hid (BRow w4 q n (fun j => dtF F V i j k)) ∧ Hid (X.grownBy w4 (some q))) (fun v60 _ => C - (intOf v60).toNat)
          case atStart => exact ⟨0, Nat.zero_le _, rfl, hrowX, hide (only_refl _ _)⟩
          case round =>
            obtain ⟨k, hk, rfl, hr4, hg4⟩ := hrel
            clear hrowX
            have hl4 : Hid (∀ y, X.grownBy y (some q) → Below w2.heap.size w2 y) := hide (fun y hy => below_grown hlX.out (Nat.le_refl _) hy (fun p hp => by cases hp; exact hqw))
            by_cases hkC : k < C
            · have i3 : (k : Int) < (C : Int) := by omega
              obtain ⟨b5, o5, hs5, hc5⟩ := hma.out.get hkC
              have hb5 : b5 < X.heap.size := cell_block_lt hc5
              have hb5q : b5 ≠ q := fun e => by
                subst e
                obtain ⟨b6, o6, hs6, hc6⟩ := (krow.out i w2 ha2.out hiR).get hkC
                rw [hs5] at hs6
                injection hs6 with hs6
                injection hs6 with hs6
                have := cell_block_lt hc6
                dsimp only at this
                omega
              obtain ⟨bb, oo, xx, kk, hse, hcc, hyy⟩ := hSc.out k hkC
              subst hse
              rw [hs5]
              have hbb : bb < w2.heap.size := cell_block_lt hcc
              have c5 : wr.cell? ⟨b5, o5 + k, none⟩ = some (.int .u8 (F i k : Nat)) := (only_cell hg4.out (o5 + k) hb5 hb5q).trans hc5
              have hS : Hid (∀ y, X.grownBy y (some q) → y.cell? ⟨g, i, none⟩ = some (.slice (some ⟨q, 0, none⟩) n n) ∧ y.cell? ⟨bb, oo + k, none⟩ = some (.slice xx n kk)) := hide (fun y hy =>
                ⟨(only_cell hy i (show g < X.heap.size by omega) (by omega)).trans hcgX.out, ((hl4.out y hy).cell (p := ⟨bb, oo + k, none⟩) hbb).trans hcc⟩)
              have hG1 : Hid (X.grownBy wr.drew (some q)) := hide (only_drewN hg4.out 1)
              have hr5 : Hid (BRow wr.drew q n (fun j => dtF F V i j k)) := hide (hr4.out.stay rfl)
              have hnd := Lib.hid (mix_dt F V i k n)
              have hyy4 := Lib.hid (hyy.below (hl4.out _ hG1.out))
              have hmixc := Lib.hid (kmix.out q i k wr.drew xx kk (hp2.out.below (hl4.out _ hG1.out) hp2.out.lt) (by omega) hr5.out (fun j hj _ => by
                obtain ⟨b7, o7, hs7, hc7⟩ := hyy.get hj
                refine ⟨b7, o7, hs7, ?_, fun e => ?_⟩
                · exact ((hl4.out _ hG1.out).cell (p := ⟨b7, o7 + j, none⟩) (cell_block_lt hc7)).trans hc7
                · have := cell_block_lt hc7
                  dsimp only at this
                  omega))
              clear hcc hyy hs5 hc5
              go_upto_region 19 with (fail)
              refine h_begin 11 (fun y : World => y.cell? ⟨g, i, none⟩ = some (.slice (some ⟨q, 0, none⟩) n n) ∧ y.cell? ⟨bb, oo + k, none⟩ = some (.slice xx n kk)) rfl (by kernel_rfl) (hS.out _ hG1.out) ?_
              have hHeld : (fun y : World => y.cell? ⟨g, i, none⟩ = some (.slice (some ⟨q, 0, none⟩) n n) ∧ y.cell? ⟨bb, oo + k, none⟩ = some (.slice xx n kk)) wr.drew := hS.out _ hG1.out
              first
                | (refine h_run (i := 0) (v := ?_) hHeld rfl (by kernel_rfl) (by kernel_rfl) (by kernel_rfl) ?_ ?_ ?_
                   rotate_left
                   · rfl
                   · (intro x hSx; (try dsimp only at hSx); go_simp <;> with_reducible rfl)
                   simp only [Act.put, List.setIfInBounds_toArray, List.set_cons_zero, List.set_cons_succ])
                | (refine h_skip (i := 0) hHeld rfl (by kernel_rfl) (by kernel_rfl) (by kernel_rfl) ?_ ?_
                   · rfl
                   simp only [Act.put, List.setIfInBounds_toArray, List.set_cons_zero, List.set_cons_succ])
              first
                | (refine h_run (i := 1) (v := ?_) hHeld rfl (by kernel_rfl) (by kernel_rfl) (by kernel_rfl) ?_ ?_ ?_
                   rotate_left
                   · rfl
                   · (intro x hSx; (try dsimp only at hSx); go_simp <;> with_reducible rfl)
                   simp only [Act.put, List.setIfInBounds_toArray, List.set_cons_zero, List.set_cons_succ])
                | (refine h_skip (i := 1) hHeld rfl (by kernel_rfl) (by kernel_rfl) (by kernel_rfl) ?_ ?_
                   · rfl
                   simp only [Act.put, List.setIfInBounds_toArray, List.set_cons_zero, List.set_cons_succ])
              first
                | (refine h_run (i := 2) (v := ?_) hHeld rfl (by kernel_rfl) (by kernel_rfl) (by kernel_rfl) ?_ ?_ ?_
                   rotate_left
                   · rfl
                   · (intro x hSx; (try dsimp only at hSx); go_simp <;> with_reducible rfl)
                   simp only [Act.put, List.setIfInBounds_toArray, List.set_cons_zero, List.set_cons_succ])
                | (refine h_skip (i := 2) hHeld rfl (by kernel_rfl) (by kernel_rfl) (by kernel_rfl) ?_ ?_
                   · rfl
                   simp only [Act.put, List.setIfInBounds_toArray, List.set_cons_zero, List.set_cons_succ])
              first
                | (refine h_run (i := 3) (v := ?_) hHeld rfl (by kernel_rfl) (by kernel_rfl) (by kernel_rfl) ?_ ?_ ?_
                   rotate_left
                   · rfl
                   · (intro x hSx; (try dsimp only at hSx); go_simp <;> with_reducible rfl)
                   simp only [Act.put, List.setIfInBounds_toArray, List.set_cons_zero, List.set_cons_succ])
                | (refine h_skip (i := 3) hHeld rfl (by kernel_rfl) (by kernel_rfl) (by kernel_rfl) ?_ ?_
                   · rfl
                   simp only [Act.put, List.setIfInBounds_toArray, List.set_cons_zero, List.set_cons_succ])
              first
                | (refine h_run (i := 4) (v := ?_) hHeld rfl (by kernel_rfl) (by kernel_rfl) (by kernel_rfl) ?_ ?_ ?_
                   rotate_left
                   · rfl
                   · (intro x hSx; (try dsimp only at hSx); go_simp <;> with_reducible rfl)
                   simp only [Act.put, List.setIfInBounds_toArray, List.set_cons_zero, List.set_cons_succ])
                | (refine h_skip (i := 4) hHeld rfl (by kernel_rfl) (by kernel_rfl) (by kernel_rfl) ?_ ?_
                   · rfl
                   simp only [Act.put, List.setIfInBounds_toArray, List.set_cons_zero, List.set_cons_succ])
              first
                | (refine h_run (i := 5) (v := ?_) hHeld rfl (by kernel_rfl) (by kernel_rfl) (by kernel_rfl) ?_ ?_ ?_
                   rotate_left
                   · rfl
                   · (intro x hSx; (try dsimp only at hSx); go_simp <;> with_reducible rfl)
                   simp only [Act.put, List.setIfInBounds_toArray, List.set_cons_zero, List.set_cons_succ])
                | (refine h_skip (i := 5) hHeld rfl (by kernel_rfl) (by kernel_rfl) (by kernel_rfl) ?_ ?_
                   · rfl
                   simp only [Act.put, List.setIfInBounds_toArray, List.set_cons_zero, List.set_cons_succ])
              first
                | (refine h_run (i := 6) (v := ?_) hHeld rfl (by kernel_rfl) (by kernel_rfl) (by kernel_rfl) ?_ ?_ ?_
                   rotate_left
                   · rfl
                   · (intro x hSx; (try dsimp only at hSx); go_simp <;> with_reducible rfl)
                   simp only [Act.put, List.setIfInBounds_toArray, List.set_cons_zero, List.set_cons_succ])
                | (refine h_skip (i := 6) hHeld rfl (by kernel_rfl) (by kernel_rfl) (by kernel_rfl) ?_ ?_
                   · rfl
                   simp only [Act.put, List.setIfInBounds_toArray, List.set_cons_zero, List.set_cons_succ])
              first
                | (refine h_run (i := 7) (v := ?_) hHeld rfl (by kernel_rfl) (by kernel_rfl) (by kernel_rfl) ?_ ?_ ?_
                   rotate_left
                   · rfl
                   · (intro x hSx; (try dsimp only at hSx); go_simp <;> with_reducible rfl)
                   simp only [Act.put, List.setIfInBounds_toArray, List.set_cons_zero, List.set_cons_succ])
                | (refine h_skip (i := 7) hHeld rfl (by kernel_rfl) (by kernel_rfl) (by kernel_rfl) ?_ ?_
                   · rfl
                   simp only [Act.put, List.setIfInBounds_toArray, List.set_cons_zero, List.set_cons_succ])
              first
                | (refine h_run (i := 8) (v := ?_) hHeld rfl (by kernel_rfl) (by kernel_rfl) (by kernel_rfl) ?_ ?_ ?_
                   rotate_left
                   · rfl
                   · (intro x hSx; (try dsimp only at hSx); go_simp <;> with_reducible rfl)
                   simp only [Act.put, List.setIfInBounds_toArray, List.set_cons_zero, List.set_cons_succ])
                | (refine h_skip (i := 8) hHeld rfl (by kernel_rfl) (by kernel_rfl) (by kernel_rfl) ?_ ?_
                   · rfl
                   simp only [Act.put, List.setIfInBounds_toArray, List.set_cons_zero, List.set_cons_succ])
              first
                | (refine h_run (i := 9) (v := ?_) hHeld rfl (by kernel_rfl) (by kernel_rfl) (by kernel_rfl) ?_ ?_ ?_
                   rotate_left
                   · rfl
                   · (intro x hSx; (try dsimp only at hSx); go_simp <;> with_reducible rfl)
                   simp only [Act.put, List.setIfInBounds_toArray, List.set_cons_zero, List.set_cons_succ])
                | (refine h_skip (i := 9) hHeld rfl (by kernel_rfl) (by kernel_rfl) (by kernel_rfl) ?_ ?_
                   · rfl
                   simp only [Act.put, List.setIfInBounds_toArray, List.set_cons_zero, List.set_cons_succ])
              clear hHeld
              refine h_call (i := 10) (fun y : World => y.cell? ⟨g, i, none⟩ = some (.slice (some ⟨q, 0, none⟩) n n) ∧ y.cell? ⟨bb, oo + k, none⟩ = some (.slice xx n kk)) (fun _ h => h) hmixc.out rfl (by kernel_rfl) rfl ?_ ?_
              · go_simp <;> with_reducible rfl
              rintro e w5 ⟨rfl, hr6, hg6⟩
              have hG2 := Lib.hid (only_trans hG1.out hg6)
              have hr7 := Lib.hid (BRow.congr hr6 (fun j hj => hnd.out j hj))
              refine ⟨_, rfl, hS.out _ hG2.out, ?_⟩
              clear hr6 hg6 c5
              refine h_done (by kernel_rfl) ?_
              go_wp2_with fail
              go_roundw
              case rel => exact ⟨k + 1, by omega, by go_num, hr7, hG2⟩
              case measure => simp [intOf]; omega
            · obtain rfl : C = k := by omega
              have i3 : decide ((C : Int) < (C : Int)) = false := by simp
              have hnx := Lib.hid (hnext.out X wr (by rw [hY1.out]; exact hbXh.out) hg4.out hr4.out)
              go_wp2_with fail
              go_roundw
              case rel => exact ⟨i + 1, _, by omega, by go_num, hnx⟩
              case measure => simp [intOf]; omega
        · obtain rfl : R = i := by omega
          have i2 : decide ((R : Int) < (R : Int)) = false := by simp
          have hrows : Hid (∃ W0 D, ApAt wr W0 g R n R (mlF F V C) D) := hide ⟨_, _, hA.out⟩
          have hlo := Lib.hid (hB2.out.trans (hA.out.lo.mono (by omega)))
          have hgw2 : w.heap.size ≤ g := by omega
          go_wp2_with fail
          go_ret2
          exact ⟨g, rfl, hgw2, hrows.out, hlo.out⟩
set_option maxRecDepth 100000 in
theorem m_apply (p R C n : Nat) (a s : Option Addr) (cap scap : Nat) (F V : Nat → Nat → Nat) (w : World) (hp : IsGf w p) (ha : MAt w a R C F) (hs : RowsAt w s C n V) (hF : Bd2 F) (hV : Bd2 V) (hR : R ≤ 255) (hC : C ≤ 255) (hc : R * C ≤ cap) (hn : n ≤ 100000) (h0n : C = 0 → n = 0) :
    Calls Try.prog 103 #[.pointer (some ⟨p, 0, none⟩), .agg #[.int .i64 (R : Nat), .int .i64 (C : Nat), .slice a (R * C) cap], .slice s C scap] w (ApPost w R n (mlF F V C)) :=
  (m_apply2 p R C n a s cap scap F V w hp ha hs hF hV hR hC hc hn h0n).mono fun _ _ h => h.to
end Go.Proofs.Ytmfagdbocidfjaa
