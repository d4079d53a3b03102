import Derived.Test.YtmfagdbocidfjaaU15
import Derived.Test.YtmfagdbocidfjaaU03
import Derived.Test.YtmfagdbocidfjaaU06
import Derived.IntWalk
/- A game's step. Conditions: the state's numbers are such as their types hold. -/
namespace Go.Proofs.Ytmfagdbocidfjaa
open Go.RowKit
def rollZ (n : Int) : Int := (n * 1664525 % 4294967296 + 1013904223) % 4294967296
set_option maxRecDepth 100000 in
theorem rollZ_bd (n : Int) : 0 ≤ rollZ n ∧ rollZ n < 4294967296 := by unfold rollZ; omega
set_option maxRecDepth 100000 in
theorem g_roll (n : Int) (w : World) : Calls Try.prog 42 #[.int .u32 n] w fun e w' => e = .returned (.int .u32 (rollZ n)) ∧ w = w' := by
  go_enter Try.func42, Try.ntmps42
  go_wp2_with fail
  go_ret
  exact ⟨rfl, rfl⟩
def bodyStep (i : Nat) (x : Int) (S : Nat → Int) : Nat → Int := fireF i x (slideF (2 + i * 7) (fallF (2 + i * 7) x (walkF (2 + i * 7) x S)))
def inZ (a b : Int) (i : Nat) : Int := if i = 0 then a else b
def bodiesF (a b : Int) : Nat → (Nat → Int) → (Nat → Int)
  | 0, S => S
  | n + 1, S => bodyStep n (inZ a b n) (bodiesF a b n S)
def shotStep (k : Nat) (a b : Int) (S : Nat → Int) : Nat → Int := if S (16 + k * 6) ≠ 0 then flyF k a b S else S
def shotsF (a b : Int) : Nat → (Nat → Int) → (Nat → Int)
  | 0, S => S
  | n + 1, S => shotStep n a b (shotsF a b n S)
def step0 (S : Nat → Int) : Nat → Int := setS (setS S 0 (wrap64 (S 0 + 1))) 1 (rollZ (S 1))
/-- a frame more -/
def stepF (a b : Int) (S : Nat → Int) : Nat → Int := shotsF a b 8 (bodiesF a b 2 (step0 S))
set_option maxRecDepth 100000 in
theorem GOk.step0 {S : Nat → Int} (h : GOk S) : GOk (Go.Proofs.Ytmfagdbocidfjaa.step0 S) := by
  have h1 : GOk (setS S 0 (wrap64 (S 0 + 1))) := h.set (by omega) (wrap_in _)
  have hr := rollZ_bd (S 1)
  refine ⟨fun j hj => ?_, ?_⟩
  · unfold Go.Proofs.Ytmfagdbocidfjaa.step0
    by_cases e : j = 1
    · subst e; rw [setS_same]; exact ⟨by omega, by omega⟩
    · rw [setS_ne _ _ e]; exact h1.1 j hj
  · unfold Go.Proofs.Ytmfagdbocidfjaa.step0
    rw [setS_same]; exact hr
set_option maxRecDepth 100000 in
theorem GOk.bodyStep {S : Nat → Int} {i : Nat} {x : Int} (hi : i < 2) (h : GOk S) : GOk (Go.Proofs.Ytmfagdbocidfjaa.bodyStep i x S) :=
  ((h.walk.fall (by omega)).slide (by omega)).fire hi
set_option maxRecDepth 100000 in
theorem GOk.bodies {S : Nat → Int} {a b : Int} (h : GOk S) : ∀ n, n ≤ 2 → GOk (bodiesF a b n S)
  | 0, _ => h
  | n + 1, hn => (GOk.bodies h n (by omega)).bodyStep (by omega)
set_option maxRecDepth 100000 in
theorem GOk.shotStep {S : Nat → Int} {k : Nat} {a b : Int} (h : GOk S) : GOk (Go.Proofs.Ytmfagdbocidfjaa.shotStep k a b S) := by
  unfold Go.Proofs.Ytmfagdbocidfjaa.shotStep
  split
  · exact h.fly
  · exact h
set_option maxRecDepth 100000 in
theorem GOk.shots {S : Nat → Int} {a b : Int} (h : GOk S) : ∀ n, GOk (shotsF a b n S)
  | 0 => h
  | n + 1 => (GOk.shots h n).shotStep
set_option maxRecDepth 100000 in
theorem GOk.step {S : Nat → Int} {a b : Int} (h : GOk S) : GOk (stepF a b S) := ((h.step0).bodies 2 (by omega)).shots 8
set_option maxRecDepth 100000 in
theorem st_info : (Try.prog.info? 49).map (·.size) = some 66 := by kernel_rfl
set_option maxRecDepth 100000 in
theorem st_infoA (S : Nat → Int) : (Try.prog.info? 49).map (·.size) = some (stA S).size := by rw [stA_size]; exact st_info
set_option maxRecDepth 100000 in
theorem st_plain (S : Nat → Int) : Plain (stA S) := by
  unfold Plain stA
  rw [Array.all_eq_true]
  intro i hi
  simp only [Array.getElem_ofFn]
  unfold cvS
  split <;> rfl
set_option maxRecDepth 100000 in
theorem ld_st0 (v : Value) : Instr.loadAt 49 v = wLoad 49 v := rfl
set_option maxRecDepth 100000 in
theorem ld_st (w : World) (b : Nat) : (wLoad 49 (.pointer (some ⟨b, 0, none⟩))).run Try.prog w = loadAns 66 w (blk w b) (wLoadRes Try.prog 49 b w) := run_wLoad Try.underlying49 rfl st_info w b
set_option maxRecDepth 100000 in
theorem sto_st0 (p x : Value) : Instr.storeAt 49 p x = wStore 49 p x := rfl
set_option maxRecDepth 100000 in
theorem sto_st (w : World) (b : Nat) (C : Array Value) : (wStore 49 (.pointer (some ⟨b, 0, none⟩)) (.agg C)).run Try.prog w = storeAns 66 w b C (blk w b) (wStoreRes Try.prog 49 b C w) := run_wStore st_info w b C
set_option maxRecDepth 100000 in
theorem zeroState (w : World) : (zeroValue 49).run Try.prog w = .ok (.agg (stA fun _ => 0)) w := by kernel_rfl
set_option maxRecDepth 100000 in
theorem StAt.keep {w w' : World} {g : Nat} {S : Nat → Int} (h : StAt w g S) (e : w'.heap[g]? = w.heap[g]?) : StAt w' g S := e.trans h
set_option maxRecDepth 100000 in
theorem three_alloc (w : World) (A B C : Obj) : let X := ((w.alloc A).alloc B).alloc C
    X.heap[w.heap.size]? = some A ∧ X.heap[w.heap.size + 1]? = some B ∧ X.heap[w.heap.size + 2]? = some C ∧ Below w.heap.size w X := by
  obtain ⟨h0, h1, hs, hB⟩ := two_alloc w A B
  exact ⟨alloc0 _ _ _ _ h0, alloc0 _ _ _ _ h1, last0 _ C _ hs.symm, hB.alloc (by omega) _⟩
set_option maxRecDepth 100000 in
theorem in_cell {W : World} {q : Nat} {a b : Int} (h : W.heap[q]? = some (.cells #[.int .u16 a, .int .u16 b] 52 (0, 0))) {i : Nat} (hi : i < 2) : W.cell? ⟨q, i, none⟩ = some (.int .u16 (inZ a b i)) := by
  rcases (show i = 0 ∨ i = 1 by omega) with rfl | rfl <;> exact (cell_of_block h).trans rfl
attribute [local irreducible] stA fmulZ satZ clampZ nearZ bornA hitZ ownB goneA walkF fallF slideF fireF flyF blk wLoad wLoadRes loadAns wStore wStoreRes storeAns Plain rollZ
attribute [local go_sem ↓] ld_st0 sto_st0
attribute [local go_sem] ld_st sto_st loadAns_some storeAns_some stA_size st_plain blk_alloc_if blk_setRow_if blk_drew_at blk_drewN_at rowPut_some
set_option maxRecDepth 100000 in
set_option maxHeartbeats 8000000 in
theorem g_step (S : Nat → Int) (a b : Int) (w : World) (ok : GOk S) :
    Calls Try.prog 14 #[.agg (stA S), .agg #[.int .u16 a, .int .u16 b]] w fun e w' => e = .returned (.agg (stA (stepF a b S))) ∧ Below w.heap.size w w' := by
  obtain ⟨h0, h1, h2, hB⟩ := three_alloc w (.cells (stA S) 49) (.cells #[.int .u16 a, .int .u16 b] 52) (.cells (stA fun _ => 0) 49)
  have hz := zeroState
  have s0 : Hid (StAt _ w.heap.size S) := hide h0
  have h1h := Lib.hid h1
  have h2h := Lib.hid h2
  have hBh := Lib.hid hB
  have okh := Lib.hid ok
  clear h0 h1 h2 hB ok
  go_enter Try.func14, Try.ntmps14
  go_upto_region 1 with (fail)
  obtain ⟨g, hgd⟩ : ∃ g, w.heap.size = g := ⟨_, rfl⟩
  have hgh := Lib.hid hgd
  generalize World.alloc (World.alloc (World.alloc w _) _) _ = W0 at *
  rw [hgd] at s0 h1h h2h ⊢
  clear hgd
  have hgW : Hid (g + 1 < W0.heap.size ∧ g + 1 + 1 < W0.heap.size) := hide ⟨(Array.getElem?_eq_some_iff.1 h1h.out).1, (Array.getElem?_eq_some_iff.1 h2h.out).1⟩
  have c0 := s0.out.int (o := 0) (by omega) rfl
  have f0 := s0.out.fr 0
  have c1 := s0.out.seed
  have f1 := s0.out.fr 1
  have s1 : Hid (StAt _ g (step0 S)) := hide ((s0.out.set (o := 0) (by omega) rfl (wrap64 (S 0 + 1))).put (o := 1) (by omega) (rollZ (S 1)) rfl)
  have hG1 := Lib.hid (only_set (only_set (only_refl W0 (some g)) 0 (.int .i64 (wrap64 (S 0 + 1)))) 1 (cvS 1 (rollZ (S 1))))
  rw [cvS_seed] at s1 hG1
  have ok1 := Lib.hid okh.out.step0
  go_upto_region 2 with (fail)
  go_wp2_with ((go_at_call 42; refine (g_roll _ _).mono ?_; rintro e w' ⟨rfl, rfl⟩; go_upto_region 4 with (fail)))
  clear c0 f0 c1 f1 s0 okh
  generalize World.setCell (World.setCell _ _ _) _ _ = W1 at *
  have hstep : Hid (stepF a b S = shotsF a b 8 (bodiesF a b 2 (step0 S))) := hide rfl
  obtain ⟨SF, hSFe⟩ : ∃ SF, stepF a b S = SF := ⟨_, rfl⟩
  rw [hSFe] at hstep
  have hSFh := Lib.hid hSFe
  clear hSFe
  generalize step0 S = S1 at *
  have hIn : Hid (∀ y i, W0.grownBy y (some g) → i < 2 → y.cell? ⟨g + 1, i, none⟩ = some (.int .u16 (inZ a b i))) := hide (fun y i hy hi => in_cell ((hy.block (g + 1) hgW.out.1 (fun e => by injection e with e; omega)).trans h1h.out) hi)
  go_loopw [16] (fun v16 wr => ∃ i : Nat, i ≤ 2 ∧ v16 = .int .i64 (i : Nat) ∧ Hid (StAt wr g (bodiesF a b i S1)) ∧ Hid (W0.grownBy wr (some g))) (fun v16 _ => 2 - (intOf v16).toNat)
  case atStart => exact ⟨0, by omega, rfl, s1, hG1⟩
  case round =>
    obtain ⟨i, hi2, rfl, hs, hG⟩ := hrel
    clear s1 hG1
    by_cases hi : i < 2
    · have i1 : (i : Int) < 2 := by omega
      have okb := Lib.hid (ok1.out.bodies (a := a) (b := b) i hi2)
      have hq : 2 + i * 7 = 2 ∨ 2 + i * 7 = 9 := by omega
      have hnext : Hid (bodiesF a b (i + 1) S1 = bodyStep i (inZ a b i) (bodiesF a b i S1)) := hide rfl
      generalize bodiesF a b i S1 = T at *
      obtain ⟨T', hTn⟩ : ∃ T', bodiesF a b (i + 1) S1 = T' := ⟨_, rfl⟩
      rw [hTn] at hnext
      have hTnh := Lib.hid hTn
      clear hTn
      have cI := hIn.out _ _ hG.out hi
      obtain ⟨x, hx⟩ : ∃ x, inZ a b i = x := ⟨_, rfl⟩
      rw [hx] at cI hnext
      have hxh := Lib.hid hx
      clear hx
      go_wp2_with fail
      refine (g_walk g (2 + i * 7) hq T x _ hs.out okb.out).mono ?_
      rintro e w2 ⟨rfl, hs2, hg2⟩
      have hG2 := Lib.hid (only_trans hG.out hg2)
      have hs2h := Lib.hid hs2
      clear hs2 hg2 cI hG hs
      have cI := hIn.out _ _ hG2.out hi
      rw [hxh.out] at cI
      have ok2 := Lib.hid (okb.out.walk (q := 2 + i * 7) (x := x))
      generalize hT2 : walkF (2 + i * 7) x T = T2 at *
      have hT2h := Lib.hid hT2
      clear hT2
      go_wp2_with fail
      refine (g_fall g (2 + i * 7) hq T2 x _ hs2h.out ok2.out).mono ?_
      rintro e w3 ⟨rfl, hs3, hg3⟩
      have hG3 := Lib.hid (only_trans hG2.out hg3)
      have hs3h := Lib.hid hs3
      clear hs3 hg3 cI hG2 hs2h
      have ok3 := Lib.hid (ok2.out.fall (q := 2 + i * 7) (x := x) (by omega))
      generalize hT3 : fallF (2 + i * 7) x T2 = T3 at *
      have hT3h := Lib.hid hT3
      clear hT3
      go_wp2_with fail
      refine (g_slide g (2 + i * 7) hq T3 _ hs3h.out ok3.out).mono ?_
      rintro e w4 ⟨rfl, hs4, hg4⟩
      have hG4 := Lib.hid (only_trans hG3.out hg4)
      have hs4h := Lib.hid hs4
      clear hs4 hg4 hG3 hs3h
      have ok4 := Lib.hid (ok3.out.slide (q := 2 + i * 7) (by omega))
      generalize hT4 : slideF (2 + i * 7) T3 = T4 at *
      have hT4h := Lib.hid hT4
      clear hT4
      have cI := hIn.out _ _ hG4.out hi
      rw [hxh.out] at cI
      go_wp2_with fail
      refine (g_fire g i hi T4 x _ hs4h.out ok4.out).mono ?_
      rintro e w5 ⟨rfl, hs5, hg5⟩
      have hG5 := Lib.hid (only_trans hG4.out hg5)
      have hs5h : Hid (StAt w5 g T') := hide (by
        rw [hnext.out]
        unfold bodyStep
        rw [hT2h.out, hT3h.out, hT4h.out]
        exact hs5)
      clear hs5 hg5 cI hG4 hs4h
      go_wp2_with fail
      go_roundw
      case rel => exact ⟨i + 1, by omega, by go_num, by rw [hTnh.out]; exact hs5h, hG5⟩
      case measure => simp [intOf]; omega
    · obtain rfl : i = 2 := by omega
      have ok2 := Lib.hid (ok1.out.bodies (a := a) (b := b) 2 (by omega))
      have hs1 := hs
      have hG1 := hG
      clear hs hG ok1 hi hi2
      generalize bodiesF a b 2 S1 = S2 at *
      go_upto_region 13 with (fail)
      go_loopw [40] (fun v40 wr => ∃ k : Nat, k ≤ 8 ∧ v40 = .int .i64 (k : Nat) ∧ Hid (StAt wr g (shotsF a b k S2)) ∧ Hid (W0.grownBy wr (some g))) (fun v40 _ => 8 - (intOf v40).toNat)
      case atStart => exact ⟨0, by omega, rfl, hs1, hG1⟩
      case round =>
        clear hs1 hG1
        obtain ⟨k, hk8, rfl, hs, hG⟩ := hrel
        by_cases hk : k < 8
        · have i1 : (k : Int) < 8 := by omega
          have okk := Lib.hid (ok2.out.shots (a := a) (b := b) k)
          have hnext : Hid (shotsF a b (k + 1) S2 = shotStep k a b (shotsF a b k S2)) := hide rfl
          obtain ⟨T', hTn⟩ : ∃ T', shotsF a b (k + 1) S2 = T' := ⟨_, rfl⟩
          rw [hTn] at hnext
          have hTnh := Lib.hid hTn
          clear hTn
          generalize shotsF a b k S2 = T at *
          have cOn := hs.out.bool (o := 16 + k * 6) (by omega) (kd_shot hk).1
          by_cases hf : T (16 + k * 6) = 0
          · have b1 : decide (T (16 + k * 6) ≠ 0) = false := by simp [hf]
            rw [b1] at cOn
            have hs9 : Hid (StAt wr g (shotsF a b (k + 1) S2)) := hide (by
              rw [hTnh.out, hnext.out]; unfold shotStep; rw [if_neg (by simp [hf])]; exact hs.out)
            go_wp2_with fail
            go_roundw
            case rel => exact ⟨k + 1, by omega, by go_num, hs9, hG⟩
            case measure => simp [intOf]; omega
          · have b1 : decide (T (16 + k * 6) ≠ 0) = true := by simp [hf]
            rw [b1] at cOn
            have cA : wr.cell? ⟨g + 1, 0, none⟩ = some (.int .u16 a) := hIn.out _ 0 hG.out (by decide)
            have cB : wr.cell? ⟨g + 1, 1, none⟩ = some (.int .u16 b) := hIn.out _ 1 hG.out (by decide)
            go_wp2_with fail
            refine (g_fly g k hk T a b _ hs.out okk.out).mono ?_
            rintro e w2 ⟨rfl, hs2, hg2⟩
            have hG2 := Lib.hid (only_trans hG.out hg2)
            have hs9 : Hid (StAt w2 g (shotsF a b (k + 1) S2)) := hide (by
              rw [hTnh.out, hnext.out]; unfold shotStep; rw [if_pos hf]; exact hs2)
            clear hs2 hg2 cA cB cOn
            go_wp2_with fail
            refine ⟨?_, ?_⟩
            rotate_left
            · simp [intOf]; omega
            first
              | exact ⟨k + 1, by omega, by go_num, hs9, hG2⟩
              | (repeat (apply Exists.intro)
                 exact ⟨⟨k + 1, by omega, by go_num, hs9, hG2⟩, rfl⟩)
        · obtain rfl : k = 8 := by omega
          have hSF : Hid (shotsF a b 8 S2 = SF) := hide hstep.out.symm
          rw [hSF.out] at hs
          have bg : blk wr g = some (.cells (stA SF) 49 (0, 0)) := blk_of hs.out
          have b2 : blk wr (g + 1 + 1) = some (.cells (stA fun _ => 0) 49 (0, 0)) := blk_of ((hG.out.block (g + 1 + 1) hgW.out.2 (fun e => by injection e with e; omega)).trans h2h.out)
          have hne : g + 1 + 1 ≠ g := by omega
          have hB9 : Hid (Below w.heap.size w (wr.setRow (g + 1 + 1) (stA SF))) := hide (below_setRow (below_grown hBh.out (Nat.le_refl _) hG.out (fun p hp => by injection hp with hp; have := hgh.out; omega)) (by have := hgh.out; omega) _)
          have hr9 := Lib.hid (setRow_heap _ _ _ (stA SF) _ _ (blk_heap b2))
          have hinf := st_infoA SF
          go_wp2_with fail
          refine bodyPost_ret (v := .agg (stA SF)) (results_row1 rfl _ _ (g + 1 + 1) _ (stA SF) (0, 0) _ rfl hr9.out Try.underlying49 rfl hinf) rfl ⟨by rw [hSFh.out], hB9.out⟩
end Go.Proofs.Ytmfagdbocidfjaa

/- A player's inputs: a new queue. -/
namespace Go.Proofs.Ytmfagdbocidfjaa
open Go.RowKit
def newQ (d : Nat) : QuS := { delay := d, kf := 0, ks := List.replicate d 0, last := 0, uf := 0, us := [], wrong := -1 }
def newQi (d i : Nat) : QuS := { delay := d, kf := 0, ks := List.replicate i 0, last := 0, uf := 0, us := [], wrong := -1 }
def NewQPost (w : World) (d : Nat) (e : Ending) (w' : World) : Prop := ∃ p kr ur kv uv, e = .returned (.tuple #[.pointer (some ⟨p, 0, none⟩), .int .i64 0]) ∧ QuAt w' w.heap.size p kr ur kv uv (newQ d) ∧ Below w.heap.size w w'
set_option maxRecDepth 100000 in
theorem RingIAt.base {W : World} {lo lo' r room first n : Nat} {v : Value} {xs : List Value} (h : RingIAt W lo r room first n v xs) (hl : lo' ≤ lo) : RingIAt W lo' r room first n v xs := ⟨h.blk, h.row.base hl, Nat.le_trans hl h.lr⟩
set_option maxRecDepth 100000 in
theorem QuAt.base {W : World} {lo lo' p kr ur : Nat} {kv uv : Value} {s : QuS} (h : QuAt W lo p kr ur kv uv s) (hl : lo' ≤ lo) : QuAt W lo' p kr ur kv uv s := ⟨h.blk, h.known.base hl, h.used.base hl, h.ne, h.dj, Nat.le_trans hl h.lp⟩
set_option maxRecDepth 100000 in
theorem qu_first (w : World) (d : Nat) : QuAt (((w.alloc (.cells #[.int .i64 256, .int .i64 0, .slice none 0 0] 177)).alloc (.cells #[.int .i64 256, .int .i64 0, .slice none 0 0] 177)).alloc (.cells #[.int .i64 (d : Nat), .pointer (some ⟨w.heap.size, 0, none⟩), .int .u16 0, .pointer (some ⟨w.heap.size + 1, 0, none⟩), .int .i64 (-1)] 145)) w.heap.size (w.heap.size + 1 + 1) w.heap.size (w.heap.size + 1) (.slice none 0 0) (.slice none 0 0) (newQi d 0) := by
  obtain ⟨h1, h2, h3, _⟩ := three_alloc w (.cells #[.int .i64 256, .int .i64 0, .slice none 0 0] 177) (.cells #[.int .i64 256, .int .i64 0, .slice none 0 0] 177) (.cells #[.int .i64 (d : Nat), .pointer (some ⟨w.heap.size, 0, none⟩), .int .u16 0, .pointer (some ⟨w.heap.size + 1, 0, none⟩), .int .i64 (-1)] 145)
  exact ⟨h3, ⟨h1, VAt.nil _ _ _ _, Nat.le_refl _⟩, ⟨h2, VAt.nil _ _ _ _, by omega⟩, by omega, (fun b hb => by cases hb), by omega⟩
set_option maxRecDepth 100000 in
set_option maxHeartbeats 2000000 in
theorem qu_new (d : Nat) (w : World) (hd : d ≤ 8) :
    Calls Try.prog 28 #[.int .i64 (d : Nat)] w (NewQPost w d) := by
  have d0 : decide ((d : Int) < 0) = false := decide_eq_false (by omega)
  have d1 : decide ((8 : Int) < (d : Int)) = false := decide_eq_false (by omega)
  have d2 : decide (8 < d) = false := decide_eq_false (by omega)
  have h0 := Lib.hid (qu_first w d)
  have hB0 : Hid (Below w.heap.size w (((w.alloc (.cells #[.int .i64 256, .int .i64 0, .slice none 0 0] 177)).alloc (.cells #[.int .i64 256, .int .i64 0, .slice none 0 0] 177)).alloc (.cells #[.int .i64 (d : Nat), .pointer (some ⟨w.heap.size, 0, none⟩), .int .u16 0, .pointer (some ⟨w.heap.size + 1, 0, none⟩), .int .i64 (-1)] 145))) :=
    hide (three_alloc w _ _ _).2.2.2
  have hdh := Lib.hid hd
  clear hd
  go_enter Try.func28, Try.ntmps28
  go_wp2_with fail
  refine (RingI_new 256 w (by omega)).mono ?_
  rintro e w1 ⟨rfl, rfl⟩
  go_wp2_with fail
  refine (RingI_new 256 _ (by omega)).mono ?_
  rintro e w2 ⟨rfl, rfl⟩
  have hs1 : (w.alloc (.cells #[.int .i64 256, .int .i64 0, .slice none 0 0] 177)).heap.size = w.heap.size + 1 := by show (w.heap.push _).size = _; rw [Array.size_push]
  clear d0 d1 d2 hs1
  go_upto_region 6 with (fail)
  generalize World.alloc _ _ = W0 at *
  obtain ⟨r, hr⟩ : ∃ r, w.heap.size = r := ⟨_, rfl⟩
  have hrh := Lib.hid hr
  rw [hr] at h0 hB0 ⊢
  clear hr
  go_upto_region 7 with (fail)
  go_loopw [29] (fun v29 wr => ∃ i : Nat, i ≤ d ∧ v29 = .int .i64 (i : Nat) ∧ ∃ kv, Hid (QuAt wr r (r + 1 + 1) r (r + 1) kv (.slice none 0 0) (newQi d i)) ∧ Hid (Below r w wr)) (fun v29 _ => d - (intOf v29).toNat)
  case atStart => exact ⟨0, by omega, rfl, _, h0, hB0⟩
  case round =>
    clear h0 hB0
    obtain ⟨i, hi, rfl, kv, h1, hB1⟩ := hrel
    have hd8 : d ≤ 8 := hdh.out
    have hi8 : i ≤ 8 := by omega
    by_cases hlt : i < d
    · have i1 : (i : Int) < (d : Int) := by omega
      have c1 : wr.cell? ⟨r + 1 + 1, 1, none⟩ = some (.pointer (some ⟨r, 0, none⟩)) := (cell_of_block h1.out.blk (i := 1)).trans rfl
      have hput := Lib.hid (RingI_put r r 256 0 i kv (inRow (List.replicate i 0)) 0 wr (by have := h1.out.known; simpa [newQi] using this) (by omega) (by have := hdh.out; omega) (by omega) (by have := hB1.out.size; have := hrh.out; omega))
      go_wp2_with fail
      refine hput.out.mono ?_
      rintro e w3 ⟨rfl, kv1, hR, hT, hf⟩
      have h9 : Hid (QuAt w3 r (r + 1 + 1) r (r + 1) kv1 (.slice none 0 0) (newQi d (i + 1))) := hide (h1.out.knownTurn hT (ks := List.replicate (i + 1) 0) (by rw [List.replicate_succ', inRow_app]; exact hR) (by simp) hf)
      have hB9 : Hid (Below r w w3) := hide (by
        have h := hB1.out
        have hge := h1.out.ge
        have hsz := hrh.out
        refine h.trans (hT.toBelow (by have := h.size; omega) (fun b hb => ?_))
        rcases hb with hb | hb
        · exact hge b (.inr (.inl hb))
        · exact hge b (.inr (.inr (.inr (.inl hb)))))
      clear hR hT hf hput c1 h1 hB1
      go_wp2_with fail
      refine ⟨?_, ?_⟩
      rotate_left
      · simp [intOf]; omega
      first
        | exact ⟨i + 1, by omega, by go_num, kv1, h9, hB9⟩
        | (repeat (apply Exists.intro)
           exact ⟨⟨i + 1, by omega, by go_num, kv1, h9, hB9⟩, rfl⟩)
    · obtain rfl : i = d := by omega
      have hend : Hid (NewQPost w i (.returned (.tuple #[.pointer (some ⟨r + 1 + 1, 0, none⟩), .int .i64 0])) wr) := hide ⟨_, _, _, _, _, rfl, by rw [hrh.out]; exact h1.out, by rw [hrh.out]; exact hB1.out⟩
      go_wp2_with fail
      go_ret2
      exact hend.out
end Go.Proofs.Ytmfagdbocidfjaa

/- The ring of saved states. Conditions: what its blocks hold. -/
namespace Go.Proofs.Ytmfagdbocidfjaa
open Go.RowKit
/-- a ring: for how many there is room, the first one's number, its row -/
structure RingEAt (W : World) (lo r room first n : Nat) (v : Value) (xs : List Value) : Prop where
  blk : W.heap[r]? = some (.cells #[.int .i64 (room : Nat), .int .i64 (first : Nat), v] 180 (0, 0))
  row : VAt W lo 150 67 v n xs
  lr : lo ≤ r
set_option maxRecDepth 100000 in
theorem RingEAt.keep {W W' : World} {lo r room first n : Nat} {v : Value} {xs : List Value} (h : RingEAt W lo r room first n v xs) (e : W'.heap[r]? = W.heap[r]?) (e2 : ∀ b, v.ownBlock = some b → W'.heap[b]? = W.heap[b]?) : RingEAt W' lo r room first n v xs :=
  ⟨e.trans h.blk, h.row.kept e2, h.lr⟩
set_option maxRecDepth 100000 in
theorem RingEAt.drewN {W : World} {lo r room first n : Nat} {v : Value} {xs : List Value} (h : RingEAt W lo r room first n v xs) (q : Nat) : RingEAt (W.drewN q) lo r room first n v xs := h.keep rfl (fun _ _ => rfl)
section
set_option maxRecDepth 100000 in
set_option maxHeartbeats 1000000 in
theorem RingE_next (lo r room first n : Nat) (v : Value) (xs : List Value) (w : World) (h : RingEAt w lo r room first n v xs) (hb : first + n ≤ 1000000) :
    Calls Try.prog 65 #[.pointer (some ⟨r, 0, none⟩)] w fun e w' => e = .returned (.int .i64 ((first + n : Nat) : Int)) ∧ ∃ q, w' = w.drewN q := by
  obtain ⟨s, cap, rfl, _, _⟩ := h.row.form
  have c1 := (cell_of_block h.blk (i := 1)).trans rfl
  have c2 := (cell_of_block h.blk (i := 2)).trans rfl
  have hs : IntKind.i64.wrap ((first : Int) + (n : Int)) = ((first + n : Nat) : Int) := by rw [show (first : Int) + (n : Int) = ((first + n : Nat) : Int) by omega]; exact IntWalk.i64_in _ (by omega)
  clear h hb
  go_enter Try.func65, Try.ntmps65
  go_upto_region 1 with (fail)
  go_quiet (fail)
  go_wp2_with fail
  go_ret
  exact ⟨rfl, _, rfl⟩
set_option maxRecDepth 100000 in
set_option maxHeartbeats 1000000 in
theorem RingE_place (lo r room first n : Nat) (v : Value) (xs : List Value) (i : Int) (w : World) (h : RingEAt w lo r room first n v xs) (hb : first + n ≤ 1000000) (hi : -1000000 ≤ i ∧ i ≤ 1000000) :
    Calls Try.prog 94 #[.pointer (some ⟨r, 0, none⟩), .int .i64 i] w fun e w' => e = .returned (.int .i64 (ringP first n i)) ∧ ∃ q, w' = w.drewN q := by
  obtain ⟨s, cap, rfl, _, _⟩ := h.row.form
  have c1 := (cell_of_block h.blk (i := 1)).trans rfl
  have c2 := (cell_of_block h.blk (i := 2)).trans rfl
  have hs : IntKind.i64.wrap (i - (first : Int)) = i - (first : Int) := IntWalk.i64_in _ (by omega)
  have hp : ringP first n i = if i < (first : Int) ∨ (first : Int) + n ≤ i then -1 else i - first := rfl
  by_cases h0 : i < (first : Int)
  · have hr : ringP first n i = -1 := by rw [hp, if_pos (.inl h0)]
    rw [hr]
    have d0 : decide (i < (first : Int)) = true := decide_eq_true h0
    clear h hb hi hr hp
    go_enter Try.func94, Try.ntmps94
    go_upto_region 1 with (fail)
    go_quiet (fail)
    go_wp2_with fail
    go_ret
    exact ⟨rfl, _, rfl⟩
  · have d0 : decide (i < (first : Int)) = false := decide_eq_false h0
    by_cases h1 : (first : Int) + n ≤ i
    · have hr : ringP first n i = -1 := by rw [hp, if_pos (.inr h1)]
      rw [hr]
      have d1 : decide (i - (first : Int) ≥ (n : Int)) = true := decide_eq_true (by omega)
      clear h hb hi hr hp
      go_enter Try.func94, Try.ntmps94
      go_upto_region 1 with (fail)
      go_quiet (fail)
      go_wp2_with fail
      go_ret
      exact ⟨rfl, _, rfl⟩
    · have hr : ringP first n i = i - first := by rw [hp, if_neg (by omega)]
      rw [hr]
      have d1 : decide (i - (first : Int) ≥ (n : Int)) = false := decide_eq_false (by omega)
      clear h hb hi hr hp
      go_enter Try.func94, Try.ntmps94
      go_upto_region 1 with (fail)
      go_quiet (fail)
      go_wp2_with fail
      go_ret
      exact ⟨rfl, _, rfl⟩
set_option maxRecDepth 100000 in
set_option maxHeartbeats 1000000 in
theorem RingE_new (room : Nat) (w : World) (hr : 1 ≤ room ∧ room ≤ 4096) :
    Calls Try.prog 63 #[.int .i64 (room : Nat)] w fun e w' => e = .returned (.tuple #[.pointer (some ⟨w.heap.size, 0, none⟩), .int .i64 0]) ∧ w' = w.alloc (.cells #[.int .i64 (room : Nat), .int .i64 (0 : Nat), .slice none 0 0] 180) := by
  have d0 : decide ((room : Int) < 1) = false := decide_eq_false (by omega)
  have d00 : decide (room < 1) = false := decide_eq_false (by omega)
  have d1 : decide ((4096 : Int) < (room : Int)) = false := decide_eq_false (by omega)
  have d11 : decide (4096 < room) = false := decide_eq_false (by omega)
  clear hr
  go_enter Try.func63, Try.ntmps63
  go_wp2_with fail
  go_ret2
  exact ⟨rfl, rfl⟩
set_option maxRecDepth 100000 in
set_option maxHeartbeats 1000000 in
theorem RingE_len (lo r room first n : Nat) (v : Value) (xs : List Value) (w : World) (h : RingEAt w lo r room first n v xs) :
    Calls Try.prog 64 #[.pointer (some ⟨r, 0, none⟩)] w fun e w' => e = .returned (.int .i64 (n : Nat)) ∧ w = w' := by
  obtain ⟨s, cap, rfl, _, _⟩ := h.row.form
  have c2 := (cell_of_block h.blk (i := 2)).trans rfl
  clear h
  go_enter Try.func64, Try.ntmps64
  go_wp2_with fail
  go_ret
  exact ⟨rfl, rfl⟩
set_option maxRecDepth 100000 in
set_option maxHeartbeats 1000000 in
theorem RingE_first (lo r room first n : Nat) (v : Value) (xs : List Value) (w : World) (h : RingEAt w lo r room first n v xs) :
    Calls Try.prog 67 #[.pointer (some ⟨r, 0, none⟩)] w fun e w' => e = .returned (.int .i64 (first : Nat)) ∧ w = w' := by
  have c1 := (cell_of_block h.blk (i := 1)).trans rfl
  clear h
  go_enter Try.func67, Try.ntmps67
  go_wp2_with fail
  go_ret
  exact ⟨rfl, rfl⟩
end
end Go.Proofs.Ytmfagdbocidfjaa
