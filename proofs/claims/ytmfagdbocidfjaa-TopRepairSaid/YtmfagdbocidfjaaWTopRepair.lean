import Derived.Test.YtmfagdbocidfjaaV44
/- The walk of the law TopRepair: it answers true for every input. -/
namespace Go.Proofs.Ytmfagdbocidfjaa
open Go.RowKit
set_option maxRecDepth 100000 in
theorem st_info4 : (Try.prog.info? 57).map (·.size) = some 4 := by kernel_rfl
set_option maxRecDepth 100000 in
theorem st_size4 (x y z u : Value) : #[x, y, z, u].size = 4 := rfl
set_option maxRecDepth 100000 in
theorem st_plain4 (k1 k2 : IntKind) (a b : Int) (s t : Option Addr) (n m n' m' : Nat) : Plain #[.slice s n m, .int k1 a, .int k2 b, .slice t n' m'] := by unfold Plain; simp [Value.oneCell']
set_option maxRecDepth 100000 in
theorem ld_st0 (v : Value) : Instr.loadAt 57 v = wLoad 57 v := rfl
set_option maxRecDepth 100000 in
theorem ld_st (w : World) (b : Nat) : (wLoad 57 (.pointer (some ⟨b, 0, none⟩))).run Try.prog w = loadAns 4 w (blk w b) (wLoadRes Try.prog 57 b w) := run_wLoad Try.underlying57 rfl st_info4 w b
set_option maxRecDepth 100000 in
theorem u16_natT {a : Int} (h : (Lit.int .u16 a).wf = true) : ∃ n : Nat, a = n ∧ n < 65536 := by
  have hx : 0 ≤ a ∧ a ≤ 65535 := by simpa [Lit.wf, IntKind.min, IntKind.max, IntKind.signed, IntKind.bits] using h
  exact ⟨a.toNat, by omega, by omega⟩
set_option maxRecDepth 100000 in
theorem row16_openT {w : World} {a : Option Addr} {len cap : Nat} {zs : List Int} (h : IsRow .u16 w a len cap zs) : ∃ L : Nat → Nat, ZAt w .u16 a len (fun i => (L i : Nat)) ∧ (∀ i, L i < 65536) ∧ len ≤ cap := by
  obtain ⟨l, hl, h1, h2, hb, hs⟩ := isRow_nat h 65536 (fun n h => by obtain ⟨m, rfl, hm⟩ := u16_natT h; omega)
  refine ⟨fun i => l.getD i 0, fun i hi => ?_, fun i => ?_, h1⟩
  · have hi2 : i < l.length := by omega
    obtain ⟨b, off, hsb, hc⟩ := hs i (l.getD i 0) (by rw [List.getD_eq_getElem?_getD, List.getElem?_eq_getElem hi2]; rfl)
    exact ⟨b, off, hsb, hc⟩
  · show l.getD i 0 < 65536
    by_cases hi : i < l.length
    · rw [List.getD_eq_getElem?_getD, List.getElem?_eq_getElem hi]; exact hb _ (List.getElem_mem _)
    · rw [List.getD_eq_getElem?_getD, List.getElem?_eq_none (by omega)]; exact (by decide : 0 < 65536)
set_option maxRecDepth 100000 in
theorem row64_openT {w : World} {a : Option Addr} {len cap : Nat} {zs : List Int} (h : IsRow .i64 w a len cap zs) : ∃ L : Nat → Int, ZAt w .i64 a len L ∧ (∀ i, -9223372036854775808 ≤ L i ∧ L i ≤ 9223372036854775807) ∧ len ≤ maxLen := by
  obtain ⟨l, hl, h1, h2, hw, hs⟩ := isRow_int h
  refine ⟨fun i => l.getD i 0, fun i hi => ?_, fun i => ?_, Nat.le_trans h1 h2⟩
  · have hi2 : i < l.length := by omega
    obtain ⟨b, off, hsb, hc⟩ := hs i (l.getD i 0) (by rw [List.getD_eq_getElem?_getD, List.getElem?_eq_getElem hi2]; rfl)
    exact ⟨b, off, hsb, hc⟩
  · show -9223372036854775808 ≤ l.getD i 0 ∧ l.getD i 0 ≤ 9223372036854775807
    by_cases hi : i < l.length
    · rw [List.getD_eq_getElem?_getD, List.getElem?_eq_getElem hi]
      have := hw _ (List.getElem_mem hi)
      simpa [Lit.wf, IntKind.min, IntKind.max, IntKind.signed, IntKind.bits] using this
    · rw [List.getD_eq_getElem?_getD, List.getElem?_eq_none (by omega)]
      exact (by decide : -9223372036854775808 ≤ (0 : Int) ∧ (0 : Int) ≤ 9223372036854775807)
set_option maxRecDepth 100000 in
theorem ld_gmid (w : World) (gb o : Nat) (no A K m : Int) (s : Option Addr) (L c : Nat) (c0 : w.cell? ⟨gb, o, none⟩ = some (.int .u32 no)) (c1 : w.cell? ⟨gb, o + 1, none⟩ = some (.int .u32 A)) (c2 : w.cell? ⟨gb, o + 2, none⟩ = some (.int .i64 K)) (c3 : w.cell? ⟨gb, o + 3, none⟩ = some (.int .i64 m)) (c4 : w.cell? ⟨gb, o + 4, none⟩ = some (.slice s L c)) :
    (wLoad 70 (.pointer (some ⟨gb, o, none⟩))).run Try.prog w = .ok (.agg #[.int .u32 no, .int .u32 A, .int .i64 K, .int .i64 m, .slice s L c]) w := by
  rw [← ld_g0]
  go_simp
/-- the groups ahead of i were told -/
def R1 (X0 : World) (xx pp n S m la : Nat) (In : Nat → Nat) (v7 v8 : Value) (wr : World) : Prop :=
  ∃ i c : Nat, v8 = .int .i64 (i : Nat) ∧ v7 = .int .i64 (c : Nat) ∧ i ≤ n ∧ c ≤ i * m ∧ ToldSt wr xx pp i (min (i * S) la) (inL In (min (i * S) la)) ∧ Below xx X0 wr
/-- k shards of the group in hand are lost already -/
def R2 (Y : World) (q c0 m L : Nat) (v7 v10 : Value) (wr : World) : Prop :=
  ∃ (k : Nat) (F : Nat → Bool), k ≤ m ∧ v10 = .int .i64 (k : Nat) ∧ v7 = .int .i64 (c0 + k : Nat) ∧ wr.heap[q]? = some (.cells (lostA F) 67 (0, 0)) ∧ L ≤ nl F L + k ∧ Below q Y wr
/-- k shards of the group in hand were handed over, or are lost -/
def R3 (X0 : World) (xx pp i A K m q : Nat) (F : Nat → Bool) (In : Nat → Nat) (Ls : List Value) (v12 : Value) (wr : World) : Prop :=
  ∃ k : Nat, v12 = .int .i64 (k : Nat) ∧ k ≤ K + m ∧ GrSt wr xx pp i A K m (nl F k) k In Ls ∧ wr.heap[q]? = some (.cells (lostA F) 67 (0, 0)) ∧ Below xx X0 wr
attribute [local irreducible] gexp gtbl glog rmul rinv rpow zexp mixF blk wLoad wLoadRes loadAns wStore wStoreRes storeAns Plain flF BRow MRow MAt By IsGf ivS rsF mlF RowsAt paF OwnS SlR dtF inV grD WinAt gpC lostA inL sumF dgK
attribute [local go_sem ↓] ld_d0 sto_d0 ld_g0 sto_g0 ld_st0
attribute [local go_sem] ld_d sto_d dg_size dg_plain ld_g sto_g gg_size gg_plain ld_st st_size4 st_plain4 loadAns_some storeAns_some blk_alloc_if blk_setRow_if blk_drew_at blk_drewN_at rowPut_some blk_setCell_if cellPut_some
set_option maxRecDepth 100000 in
set_option maxHeartbeats 16000000 in
theorem topRepair_walk (v0 : Value) (w : World) (w0 : IsSent w v0) :
    Calls Try.prog 4 #[v0] w fun e w' => e = .returned (.bool true) ∧ Below w.heap.size w w' := by
  obtain ⟨a, la, ca, za, S0, P0, b, lb, cb, zb, rfl, ha, hS0, hP0, hb⟩ := w0
  obtain ⟨In, hzI, hIn, hca⟩ := row16_openT ha
  obtain ⟨Lo, hzL, hLo, hlbm⟩ := row64_openT hb
  have hzd := zeroDG
  have hzg := zeroGG
  have hzIh := Lib.hid hzI
  have hInh := Lib.hid hIn
  have hzLh := Lib.hid hzL
  have hLoh := Lib.hid hLo
  have hlb : Hid (lb ≤ maxLen) := hide hlbm
  clear hlbm
  obtain ⟨z, hz⟩ : ∃ z, w.heap.size = z := ⟨_, rfl⟩
  obtain ⟨W, hW⟩ : ∃ W, w.alloc (.cells #[.slice a la ca, .int .i64 S0, .int .i64 P0, .slice b lb cb] 57) = W := ⟨_, rfl⟩
  have hBW : Hid (Below w.heap.size w W) := hide (hW ▸ (Below.refl _ _).alloc (Nat.le_refl _) _)
  have hblk : Hid (W.heap[z]? = some (.cells #[.slice a la ca, .int .i64 S0, .int .i64 P0, .slice b lb cb] 57 (0, 0))) := hide (by rw [← hW, ← hz]; exact Array.getElem?_push_size (xs := w.heap))
  have hzW : Hid (z < W.heap.size) := hide (Array.getElem?_eq_some_iff.1 hblk.out).1
  have hWh := Lib.hid hW
  have hzh := Lib.hid hz
  clear ha hb hS0 hP0 hzI hIn hzL hLo hW hz
  go_enter Try.func4, Try.ntmps4
  go_upto_region 1 with (fail)
  rw [hWh.out, hzh.out]
  go_wp2_with fail
  refine (tr_coded W).mono ?_
  rintro e W1 ⟨rfl, hb1⟩
  have hB1 := Lib.hid (hBW.out.trans (hb1.mono hBW.out.size))
  have hblk1 : Hid (W1.heap[z]? = some (.cells #[.slice a la ca, .int .i64 S0, .int .i64 P0, .slice b lb cb] 57 (0, 0))) := hide ((hb1.block z hzW.out).trans hblk.out)
  clear hb1 hblk hzW hBW
  have c0 := (cell_of_block hblk1.out).trans (show #[Value.slice a la ca, .int .i64 S0, .int .i64 P0, .slice b lb cb][0]? = some (.slice a la ca) from rfl)
  have c1 := (cell_of_block hblk1.out).trans (show #[Value.slice a la ca, .int .i64 S0, .int .i64 P0, .slice b lb cb][1]? = some (.int .i64 S0) from rfl)
  have c2 := (cell_of_block hblk1.out).trans (show #[Value.slice a la ca, .int .i64 S0, .int .i64 P0, .slice b lb cb][2]? = some (.int .i64 P0) from rfl)
  have c3 := (cell_of_block hblk1.out).trans (show #[Value.slice a la ca, .int .i64 S0, .int .i64 P0, .slice b lb cb][3]? = some (.slice b lb cb) from rfl)
  have hend := hB1
  by_cases h1 : S0 < 1
  · have d1 : decide (S0 < 1) = true := decide_eq_true h1
    go_wp2_with fail
    go_ret
    exact ⟨rfl, hend.out⟩
  have d1 : decide (S0 < 1) = false := decide_eq_false h1
  by_cases h2 : 8 < S0
  · have d2 : decide ((8 : Int) < S0) = true := decide_eq_true h2
    go_wp2_with fail
    go_ret
    exact ⟨rfl, hend.out⟩
  have d2 : decide ((8 : Int) < S0) = false := decide_eq_false h2
  by_cases h3 : P0 < 0
  · have d3 : decide (P0 < 0) = true := decide_eq_true h3
    go_wp2_with fail
    go_ret
    exact ⟨rfl, hend.out⟩
  have d3 : decide (P0 < 0) = false := decide_eq_false h3
  by_cases h4 : 6 < P0
  · have d4 : decide ((6 : Int) < P0) = true := decide_eq_true h4
    go_wp2_with fail
    go_ret
    exact ⟨rfl, hend.out⟩
  have d4 : decide ((6 : Int) < P0) = false := decide_eq_false h4
  by_cases h5 : 60 < la
  · have d5 : decide ((60 : Int) < (la : Int)) = true := decide_eq_true (by omega)
    have d5' : decide (60 < la) = true := decide_eq_true h5
    go_wp2_with fail
    go_ret
    exact ⟨rfl, hend.out⟩
  have d5 : decide ((60 : Int) < (la : Int)) = false := decide_eq_false (by omega)
  have d5' : decide (60 < la) = false := decide_eq_false h5
  by_cases h6 : lb = 0
  · have d6 : ((lb : Int) == 0) = true := by simp [h6]
    go_wp2_with fail
    go_ret
    exact ⟨rfl, hend.out⟩
  have d6 : ((lb : Int) == 0) = false := by simpa using h6
  obtain ⟨S, rfl⟩ : ∃ S : Nat, S0 = S := ⟨S0.toNat, by omega⟩
  obtain ⟨m, rfl⟩ : ∃ m : Nat, P0 = m := ⟨P0.toNat, by omega⟩
  have hS1 : 1 ≤ S := by omega
  have hS8 : S ≤ 8 := by omega
  have hm6 : m ≤ 6 := by omega
  have hla : la ≤ 60 := by omega
  go_upto_region 5 with (fail)
  clear d1 d2 d3 d4 d5 d5' d6 h1 h2 h3 h4 h5 c0 c1 c2 c3
  have bz := blk_of hblk1.out
  have hca' : la ≤ ca := hca
  have kg := Lib.hid (tr_groups a la ca S m b lb cb In W1 (hzIh.out.below hB1.out) hInh.out hca hS1 hS8 hm6 hla)
  go_wp2_with fail
  refine kg.out.mono ?_
  rintro e W2 ⟨v, n, D, cp, rfl, hg, hnS, hjs, hb2⟩
  obtain ⟨lk, lcap, rfl, _⟩ := hg.1.form
  have hB2 := Lib.hid (hB1.out.trans (hb2.mono hB1.out.size))
  have hz1 : z < W1.heap.size := (Array.getElem?_eq_some_iff.1 hblk1.out).1
  have hblk2 : Hid (W2.heap[z]? = some (.cells #[.slice a la ca, .int .i64 (S : Nat), .int .i64 (m : Nat), .slice b lb cb] 57 (0, 0))) := hide ((hb2.block z hz1).trans hblk1.out)
  have hg2 : Hid (GpAt W2 0 (.slice lk n lcap) n S m la In D cp) := hide ⟨hg.1.base (Nat.zero_le _), fun j hj => (hg.2 j hj).base (Nat.zero_le _)⟩
  have hjsh := Lib.hid hjs
  clear bz kg hb2 hz1 hblk1 hg hjs
  by_cases h32 : 32 < n
  · have d32 : decide ((32 : Int) < (n : Int)) = true := decide_eq_true (by omega)
    have d32' : decide (32 < n) = true := decide_eq_true h32
    have hend := hB2
    go_wp2_with fail
    go_ret
    exact ⟨rfl, hend.out⟩
  have d32 : decide ((32 : Int) < (n : Int)) = false := decide_eq_false (by omega)
  have d32' : decide (32 < n) = false := decide_eq_false h32
  have hn32 : n ≤ 32 := by omega
  go_upto_region 8 with (fail)
  clear d32 d32' h32 hend hB1
  go_wp2_with fail
  refine (c_new W2).mono ?_
  rintro e W3 ⟨T, rfl, hT, hb3⟩
  obtain ⟨tt, htt⟩ : ∃ tt, W2.heap.size = tt := ⟨_, rfl⟩
  rw [htt] at hT ⊢
  have hb3h := Lib.hid hb3
  have hTh := Lib.hid hT
  clear hb3 hT
  go_wp2_with fail
  refine (gf_new_below W3).mono ?_
  rintro e W4 ⟨rfl, hp, hb4⟩
  obtain ⟨pp, hpp⟩ : ∃ pp, W3.heap.size = pp := ⟨_, rfl⟩
  rw [hpp] at hp ⊢
  have hb4h := Lib.hid hb4
  have hph := Lib.hid hp
  clear hb4 hp
  go_wp2_with fail
  refine (re_new pp W4).mono ?_
  rintro e X0 ⟨rfl, hwin, hb5⟩
  obtain ⟨xx, hxx⟩ : ∃ xx, W4.heap.size = xx := ⟨_, rfl⟩
  rw [hxx] at hwin ⊢
  have hpx : pp < xx := by have := hph.out.lt; omega
  have hB24 : Below W2.heap.size W2 W4 := hb3h.out.trans (hb4h.out.mono hb3h.out.size)
  have hBx : Below xx W4 X0 := hxx ▸ hb5
  have hxX : xx < X0.heap.size := by unfold WinAt at hwin; obtain ⟨C, hC, _⟩ := hwin; exact (Array.getElem?_eq_some_iff.1 hC).1
  have hB0 : Hid (Below w.heap.size w X0) := hide (hB2.out.trans ((hB24.mono hB2.out.size).trans (hb5.mono (Nat.le_trans hB2.out.size hB24.size))))
  have hF : Hid (∀ y, Below xx X0 y → GpAt y 0 (.slice lk n lcap) n S m la In D cp ∧ TbAt y tt T ∧ IsGf y pp ∧ y.heap[z]? = some (.cells #[.slice a la ca, .int .i64 (S : Nat), .int .i64 (m : Nat), .slice b lb cb] 57 (0, 0)) ∧ Below w.heap.size w y) := hide (fun y hy => by
    have hWy : Below xx W4 y := hBx.trans hy
    have hW4y : Below W4.heap.size W4 y := by rw [hxx]; exact hWy
    have h2y : Below W2.heap.size W2 y := hB24.trans (hW4y.mono hB24.size)
    refine ⟨hg2.out.below h2y, ?_, ?_, ?_, ?_⟩
    · exact ((hb4h.out.trans (hW4y.mono hb4h.out.size)).block tt (Array.getElem?_eq_some_iff.1 hTh.out).1).trans hTh.out
    · exact hph.out.below hW4y hph.out.lt
    · exact (h2y.block z (Array.getElem?_eq_some_iff.1 hblk2.out).1).trans hblk2.out
    · exact hB0.out.trans (hy.mono (by have := hB2.out.size; have := hB24.size; omega)))
  have hTold0 : Hid (ToldSt X0 xx pp 0 0 (inL In 0)) := hide ⟨.slice none 0 0, 0, 0, hwin, by unfold inL; exact VAt.nil _ _ _ _⟩
  clear hwin hb5 hBx hb3h hb4h hTh hph hB24 htt hpp hxx hg2 hB2 hblk2 hB0
  go_upto_region 11 with (fail)
  go_loopw [7, 8] (fun v7 v8 wr => R1 X0 xx pp n S m la In v7 v8 wr) (fun _ v8 _ => n - (intOf v8).toNat)
  case atStart => exact ⟨0, 0, rfl, rfl, Nat.zero_le _, Nat.zero_le _, by rw [Nat.zero_mul, Nat.zero_min]; exact hTold0.out, Below.refl _ _⟩
  case round =>
    obtain ⟨i, c, rfl, rfl, hin, hc, hTo, hB⟩ := hrel
    have hToh := Lib.hid hTo
    have hBh := Lib.hid hB
    have hch := Lib.hid hc
    clear hTo hB hc
    by_cases hlt : i < n
    · have i1 : (i : Int) < (n : Int) := by omega
      go_upto_region 15 with (fail)
      rw [lostA_none]
      obtain ⟨Y, hY⟩ : ∃ Y, wr = Y := ⟨_, rfl⟩
      rw [hY] at hToh hBh ⊢
      clear hY
      obtain ⟨q, hq⟩ : ∃ q, Y.heap.size = q := ⟨_, rfl⟩
      obtain ⟨Y1, hY1⟩ : ∃ Y1, Y.alloc (.cells (lostA (fun _ => false)) 67) = Y1 := ⟨_, rfl⟩
      have hY1b : Hid (Below q Y Y1) := hide (by rw [← hq, ← hY1]; exact (Below.refl _ _).alloc (Nat.le_refl _) _)
      have hY1q : Hid (Y1.heap[q]? = some (.cells (lostA (fun _ => false)) 67 (0, 0))) := hide (by rw [← hq, ← hY1]; exact Array.getElem?_push_size (xs := Y.heap))
      have hqx : xx ≤ q := by have := hToh.out.lt; omega
      have hqh := Lib.hid hq
      rw [hY1, hq]
      clear hY1 hq
      obtain ⟨K, hK⟩ : ∃ K, kOf S la i = K := ⟨_, rfl⟩
      have hAla : i * S < la := hjsh.out i hlt
      have hK1 : 1 ≤ K := by rw [← hK]; unfold kOf; omega
      have hK8 : K ≤ 8 := by rw [← hK]; unfold kOf; omega
      obtain ⟨A, hA⟩ : ∃ A, i * S = A := ⟨_, rfl⟩
      have hAK : A + K = min ((i + 1) * S) la := by rw [← hK, ← hA]; exact kOf_fr S la i hAla
      have hTo2 : Hid (ToldSt Y xx pp i A (inL In A)) := hide (by
        have := hToh.out
        rw [Nat.min_eq_left (Nat.le_of_lt hAla), hA] at this
        exact this)
      rw [hA] at hAla
      have hAh := Lib.hid hA
      have hKh := Lib.hid hK
      have hAKh := Lib.hid hAK
      obtain ⟨KM, hKM⟩ : ∃ KM, K + m = KM := ⟨_, rfl⟩
      have hKM1 : 1 ≤ KM := by omega
      have hKM14 : KM ≤ 14 := by omega
      have hc200 : c ≤ 200 := by have := Nat.mul_le_mul hin hm6; have := hch.out; omega
      have hFY : Hid (∀ y, Below q Y y → Below xx X0 y) := hide (fun y hy => hBh.out.trans (hy.mono hqx))
      clear hA hK hAK hToh
      go_loopw [7, 10] (fun v7 v10 wr => R2 Y q c m KM v7 v10 wr) (fun _ v10 _ => m - (intOf v10).toNat)
      case atStart => exact ⟨0, fun _ => false, Nat.zero_le _, rfl, rfl, hY1q.out, by rw [nl_none]; omega, hY1b.out⟩
      case round =>
        obtain ⟨k, F, hkm, rfl, rfl, hqF, hnl, hB2⟩ := hrel
        have hqFh := Lib.hid hqF
        have hB2h := Lib.hid hB2
        have hnlh := Lib.hid hnl
        obtain ⟨f1, _, _, f4, _⟩ := hF.out wr (hFY.out wr hB2)
        have c2 := (cell_of_block f4).trans (show #[Value.slice a la ca, .int .i64 (S : Nat), .int .i64 (m : Nat), .slice b lb cb][2]? = some (.int .i64 (m : Nat)) from rfl)
        by_cases hk : k < m
        · have i2 : (k : Int) < (m : Int) := by omega
          have c3 := (cell_of_block f4).trans (show #[Value.slice a la ca, .int .i64 (S : Nat), .int .i64 (m : Nat), .slice b lb cb][3]? = some (.slice b lb cb) from rfl)
          obtain ⟨gb, go, gk, e5, _⟩ := f1.1.ptr (by omega)
          cases e5
          obtain ⟨_, _, _, _, g4⟩ := f1.cells hlt
          rw [hKh.out, hKM] at g4
          obtain ⟨c', hc'⟩ : ∃ c', c + k = c' := ⟨_, rfl⟩
          obtain ⟨e, he⟩ : ∃ e, c' % lb = e := ⟨_, rfl⟩
          have hel : e < lb := by rw [← he]; exact Nat.mod_lt _ (by omega)
          have hlbm := hlb.out
          unfold maxLen at hlbm
          have m1 : (c' : Int).tmod (lb : Int) = (e : Int) := by rw [Int.tmod_eq_emod_of_nonneg (by omega), ← he]; omega
          have m2 : IntKind.i64.wrap (e : Int) = (e : Int) := IntWalk.i64_in _ (by omega)
          have m3 : (e : Int) < (lb : Int) := by omega
          have m4 : ¬ (lb : Int) = 0 := by omega
          obtain ⟨x, hx⟩ : ∃ x, Lo e = x := ⟨_, rfl⟩
          obtain ⟨bb, bo, rfl, cx0⟩ := (hzLh.out.below (hF.out wr (hFY.out wr hB2)).2.2.2.2) e hel
          rw [hx] at cx0
          obtain ⟨r, hr⟩ : ∃ r, x.tmod (KM : Int) = r := ⟨_, rfl⟩
          have hr1 : -(KM : Int) < r ∧ r < KM := by rw [← hr]; exact tmod_bd x KM (by omega)
          have m5 : IntKind.i64.wrap r = r := IntWalk.i64_in _ (by omega)
          have m6 : ¬ (KM : Int) = 0 := by omega
          have iw1 : IntKind.i64.wrap ((c' : Int) + 1) = ((c' + 1 : Nat) : Int) := by rw [IntWalk.i64_in _ (by omega)]; omega
          have iw2 : IntKind.i64.wrap ((k : Int) + 1) = ((k + 1 : Nat) : Int) := by rw [IntWalk.i64_in _ (by omega)]; omega
          have hstep : Hid (∀ nq nn, nn < 32 → R2 Y q c m KM (.int .i64 ((c' + 1 : Nat) : Int)) (.int .i64 ((k + 1 : Nat) : Int)) ((wr.drewN nq).setCell ⟨q, nn, none⟩ (.bool true))) := hide (fun nq nn hnn => by
            refine ⟨k + 1, fun j => if j = nn then true else F j, by omega, rfl, by rw [← hc', Nat.add_assoc], ?_, ?_, ?_⟩
            · rw [← lostA_set F nn hnn]
              exact blk_set hqFh.out _ _
            · have h1 := nl_set F nn KM
              have h2 := hnlh.out
              have h3 : (if nn < KM then 1 else 0) ≤ 1 := by split <;> omega
              omega
            · exact below_grown (below_drewN hB2h.out nq) (by rw [hqh.out]; exact Nat.le_refl _) (only_set (only_refl _ (some q)) nn _) (fun b hb => by cases hb; exact Nat.le_refl _))
          have hlc : Hid (∀ nn, nn < 32 → wr.cell? ⟨q, nn, none⟩ = some (.bool (F nn)) ∧ wr.frozen? ⟨q, nn, none⟩ = false) := hide (fun nn hnn => ⟨by rw [cell_of_block hqFh.out]; exact lostA_get F hnn, frozen_of_row _ _ _ _ _ hqFh.out⟩)
          have hmeas : m - (k + 1) < m - k := by omega
          rw [hc']
          clear hc' he hx hqF hnl hB2 f1 f4 hlbm
          go_upto_region 17 with (fail)
          go_quiet (fail)
          by_cases hr0 : r < 0
          · obtain ⟨nn, hnn⟩ : ∃ nn : Nat, r + (KM : Int) = nn := ⟨(r + (KM : Int)).toNat, by omega⟩
            have hnn32 : nn < 32 := by omega
            have j1 : decide (r < 0) = true := decide_eq_true hr0
            have j2 : IntKind.i64.wrap (r + (KM : Int)) = (nn : Int) := by rw [hnn]; exact IntWalk.i64_in _ (by omega)
            have j3 : (nn : Int) < 32 := by omega
            obtain ⟨lc, lf⟩ := hlc.out nn hnn32
            have hst := Lib.hid (hstep.out nq nn hnn32)
            clear hnn
            go_wp2_with fail
            refine ⟨?_, ?_⟩
            rotate_left
            · simpa [intOf] using hmeas
            first
              | exact hst.out
              | (repeat (apply Exists.intro)
                 exact ⟨hst.out, rfl⟩)
              | (iterate 40 (apply Exists.intro)
                 exact ⟨hst.out, rfl⟩)
          · obtain ⟨nn, rfl⟩ : ∃ nn : Nat, r = nn := ⟨r.toNat, by omega⟩
            have hnn32 : nn < 32 := by omega
            have j1 : decide ((nn : Int) < 0) = false := decide_eq_false hr0
            have j3 : (nn : Int) < 32 := by omega
            obtain ⟨lc, lf⟩ := hlc.out nn hnn32
            have hst := Lib.hid (hstep.out nq nn hnn32)
            clear hr0 hr hr1
            go_wp2_with fail
            refine ⟨?_, ?_⟩
            rotate_left
            · simpa [intOf] using hmeas
            first
              | exact hst.out
              | (repeat (apply Exists.intro)
                 exact ⟨hst.out, rfl⟩)
              | (iterate 40 (apply Exists.intro)
                 exact ⟨hst.out, rfl⟩)
        · obtain rfl : m = k := by omega
          have i2 : decide ((m : Int) < (m : Int)) = false := by simp
          go_upto_region 23 with (fail)
          obtain ⟨Z, hZ⟩ : ∃ Z, wr = Z := ⟨_, rfl⟩
          rw [hZ] at hB2h hqFh ⊢
          have hBZ : Hid (Below xx X0 Z) := hide (hFY.out Z hB2h.out)
          have hTZ : ToldSt Z xx pp i A (inL In A) := hTo2.out.below (by rw [hqh.out]; exact hB2h.out)
          have hGZ : Hid (GrSt Z xx pp i A K m 0 0 (fun t => In (A + t)) (inL In A)) := hide (hTZ.begin hK1)
          clear hZ hqF hnl hB2 f1 f4 c2 i2 hk hTZ hTo2 hFY hY1b hY1q
          go_loopw [12] (fun v12 wr => R3 X0 xx pp i A K m q F (fun t => In (A + t)) (inL In A) v12 wr) (fun v12 _ => KM - (intOf v12).toNat)
          case atStart => exact ⟨0, rfl, Nat.zero_le _, hGZ.out, hqFh.out, hBZ.out⟩
          case round =>
            obtain ⟨k, rfl, hkK, hG, hqF3, hB3⟩ := hrel
            have hGh := Lib.hid hG
            have hqF3h := Lib.hid hqF3
            have hB3h := Lib.hid hB3
            obtain ⟨f1, f2, f3, f4, f5⟩ := hF.out wr hB3
            obtain ⟨gb, go, gk, e5, _⟩ := f1.1.ptr (by omega)
            cases e5
            obtain ⟨g0, g1, g2, g3, g4⟩ := f1.cells hlt
            have hrow := f1.2 i hlt
            rw [hKh.out, hKM] at g4 hrow
            rw [hKh.out] at g2
            rw [hAh.out] at g1 hrow
            have hB3s := hB3
            clear hG hqF3 hB3
            by_cases hk : k < KM
            · have i2 : (k : Int) < (KM : Int) := by omega
              have hld := ld_gmid wr gb (go + i * 5) (i : Nat) (A : Nat) (K : Nat) (m : Nat) (some ⟨D i, 0, none⟩) KM (cp i) g0 g1 g2 g3 g4
              obtain ⟨rg, rc, hrc, hrb⟩ := hrow.row hk
              have kdg := Lib.hid (g_datagram (i : Nat) (A : Nat) K m k KM (D i) 0 (cp i) rg rc (grD K (fun t => In (A + t)) k) wr hk hrc hrb)
              have hB3s := hB3h.out.size
              clear f1 f2 f3 f4 hrow hrc hrb g0 g1 g2 g3
              go_upto_region 25 with (fail)
              go_wp2_with fail
              refine kdg.out.mono ?_
              rintro e y1 ⟨dg, dc, rfl, hdg, hdr, hb1⟩
              obtain ⟨kd, hkd⟩ : ∃ kd : Nat, dgK K k = (kd : Int) := by
                unfold dgK
                split
                · exact ⟨3, rfl⟩
                · exact ⟨2, rfl⟩
              have hkdh := Lib.hid hkd
              rw [hkd]
              have hb1h := Lib.hid hb1
              have hdrh := Lib.hid hdr
              clear hld hb1 hdr hkd kdg g4 hB3s
              go_upto_region 26 with (fail)
              obtain ⟨q1, hq1⟩ : ∃ q1, y1.heap.size = q1 := ⟨_, rfl⟩
              have hBz : Below wr.heap.size wr ((y1.alloc (.cells #[.int .i64 0, .int .u32 0, .int .u32 0, .int .i64 0, .int .u32 0, .int .u32 0, .int .u32 0, .int .i64 0, .int .i64 0, .int .i64 0, .slice none 0 0] 73)).setRow y1.heap.size #[.int .i64 (kd : Nat), .int .u32 0, .int .u32 0, .int .i64 0, .int .u32 0, .int .u32 (i : Nat), .int .u32 (A : Nat), .int .i64 (K : Nat), .int .i64 (m : Nat), .int .i64 (k : Nat), .slice (some ⟨dg, 0, none⟩) 2 dc]) := below_setRow (hb1h.out.alloc hb1h.out.size _) hb1h.out.size _
              have hqz := setRow_heap (y1.alloc (.cells #[.int .i64 0, .int .u32 0, .int .u32 0, .int .i64 0, .int .u32 0, .int .u32 0, .int .u32 0, .int .i64 0, .int .i64 0, .int .i64 0, .slice none 0 0] 73)) y1.heap.size _ #[.int .i64 (kd : Nat), .int .u32 0, .int .u32 0, .int .i64 0, .int .u32 0, .int .u32 (i : Nat), .int .u32 (A : Nat), .int .i64 (K : Nat), .int .i64 (m : Nat), .int .i64 (k : Nat), .slice (some ⟨dg, 0, none⟩) 2 dc] 73 (0, 0) (last_block0 y1 (.cells #[.int .i64 0, .int .u32 0, .int .u32 0, .int .i64 0, .int .u32 0, .int .u32 0, .int .u32 0, .int .i64 0, .int .i64 0, .int .i64 0, .slice none 0 0] 73) _ rfl)
              have hdz : BRow ((y1.alloc (.cells #[.int .i64 0, .int .u32 0, .int .u32 0, .int .i64 0, .int .u32 0, .int .u32 0, .int .u32 0, .int .i64 0, .int .i64 0, .int .i64 0, .slice none 0 0] 73)).setRow y1.heap.size #[.int .i64 (kd : Nat), .int .u32 0, .int .u32 0, .int .i64 0, .int .u32 0, .int .u32 (i : Nat), .int .u32 (A : Nat), .int .i64 (K : Nat), .int .i64 (m : Nat), .int .i64 (k : Nat), .slice (some ⟨dg, 0, none⟩) 2 dc]) dg 2 (grD K (fun t => In (A + t)) k) := by
                have hB1 : Below y1.heap.size y1 ((y1.alloc (.cells #[.int .i64 0, .int .u32 0, .int .u32 0, .int .i64 0, .int .u32 0, .int .u32 0, .int .u32 0, .int .i64 0, .int .i64 0, .int .i64 0, .slice none 0 0] 73)).setRow y1.heap.size #[.int .i64 (kd : Nat), .int .u32 0, .int .u32 0, .int .i64 0, .int .u32 0, .int .u32 (i : Nat), .int .u32 (A : Nat), .int .i64 (K : Nat), .int .i64 (m : Nat), .int .i64 (k : Nat), .slice (some ⟨dg, 0, none⟩) 2 dc]) := below_setRow ((Below.refl _ _).alloc (Nat.le_refl _) _) (Nat.le_refl _) _
                exact hdrh.out.below hB1 hdrh.out.lt
              generalize World.setRow (World.alloc y1 _) _ _ = y2 at *
              rw [hq1] at hqz ⊢
              have b1 := blk_of hqz
              have hBzh := Lib.hid hBz
              have hfy := hF.out y2 (hB3h.out.trans (hBz.mono (Nat.le_of_lt hGh.out.lt)))
              have hen := wi_encode tt T (i : Nat) (A : Nat) K m k dg dc (grD K (fun t => In (A + t)) k) y2 hfy.2.1 hdz hK1 (by omega) (by omega) (by omega)
              unfold dgV at hen
              rw [hkdh.out] at hen
              have henh := Lib.hid hen
              clear hBz hqz hdz hfy hen hdrh hb1h
              go_wp2_with fail
              refine henh.out.mono ?_
              rintro e y3 ⟨v', rfl, hv', hb3⟩
              have hwc := wire_cast i A kd K m k (grD K (fun t => In (A + t)) k) hkdh.out
              have hsb := sumF_bd T (wireF (i : Nat) (A : Nat) K m k (grD K (fun t => In (A + t)) k))
              obtain ⟨sn, hsn⟩ : ∃ sn : Nat, sumF T (wireF (i : Nat) (A : Nat) K m k (grD K (fun t => In (A + t)) k)) = sn := ⟨(sumF T (wireF (i : Nat) (A : Nat) K m k (grD K (fun t => In (A + t)) k))).toNat, by omega⟩
              rw [hsn] at hsb hv'
              have hlen : (wireF (i : Nat) (A : Nat) K m k (grD K (fun t => In (A + t)) k) ++ le4 (sn : Int)).length = 35 := by rw [List.length_append, hwc, List.length_map, wireN_len]; rfl
              rw [hlen] at hv'
              obtain ⟨eb, eo, ec, rfl, _⟩ := hv'.ptr (by omega)
              have hBy3 : Hid (Below wr.heap.size wr y3) := hide (hBzh.out.trans (hb3.mono hBzh.out.size))
              have hv'h := Lib.hid hv'
              have hsnh := Lib.hid hsn
              have hq3 : Hid (y3.heap[q]? = some (.cells (lostA F) 67 (0, 0))) := hide ((hBy3.out.block q (Array.getElem?_eq_some_iff.1 hqF3h.out).1).trans hqF3h.out)
              have hG3 : Hid (GrSt y3 xx pp i A K m (nl F k) k (fun t => In (A + t)) (inL In A)) := hide (hGh.out.below hBy3.out)
              have hX3 : Hid (Below xx X0 y3) := hide (hB3h.out.trans (hBy3.out.mono (Nat.le_of_lt hGh.out.lt)))
              have ck : y3.cell? ⟨q, k, none⟩ = some (.bool (F k)) := by rw [cell_of_block hq3.out]; exact lostA_get F (by omega)
              have hk32 : (k : Int) < 32 := by omega
              have iw3 : IntKind.i64.wrap ((k : Int) + 1) = ((k + 1 : Nat) : Int) := by rw [IntWalk.i64_in _ (by omega)]; omega
              have hmeas : KM - (k + 1) < KM - k := by omega
              clear hv' hb3 hwc hsn hlen henh b1 hBzh
              go_upto_region 29 with (fail)
              by_cases hFk : F k = true
              · rw [hFk] at ck
                have hst : Hid (R3 X0 xx pp i A K m q F (fun t => In (A + t)) (inL In A) (.int .i64 ((k + 1 : Nat) : Int)) y3) := hide ⟨k + 1, rfl, by omega, by rw [nl_lost F k hFk]; exact hG3.out.skip, hq3.out, hX3.out⟩
                go_wp2_with fail
                refine ⟨?_, ?_⟩
                rotate_left
                · simpa [intOf] using hmeas
                first
                  | exact hst.out
                  | (repeat (apply Exists.intro)
                     exact ⟨hst.out, rfl⟩)
                  | (iterate 50 (apply Exists.intro)
                     exact ⟨hst.out, rfl⟩)
              · have hFk2 : F k = false := by simpa using hFk
                rw [hFk2] at ck
                have hIn' := hInh.out
                have hfb := grD_bd K (fun t => In (A + t)) (fun t => hIn' _) k
                have kde := Lib.hid (wi_decode tt T eb eo ec y2.heap.size sn i A kd K m k (grD K (fun t => In (A + t)) k) y3 (hF.out y3 hX3.out).2.1 hsnh.out (by omega) hv'h.out hkdh.out hK1 (by omega) (by omega) (by omega) (by omega) (by omega) (hfb 0) (hfb 1))
                have hKp3 := hX3.out.size
                clear hsb hfb hIn' hKp3
                go_upto_region 30 with (fail)
                go_wp2_with fail
                refine kde.out.mono ?_
                rintro e y4 ⟨rg2, rc2, rfl, _, hdr, hb4⟩
                have hb4h := Lib.hid hb4
                have hdrh := Lib.hid hdr
                rw [hkdh.out]
                clear hb4 hdr kde ck
                go_upto_region 31 with (fail)
                obtain ⟨q5, hq5⟩ : ∃ q5, y4.heap.size = q5 := ⟨_, rfl⟩
                have hBz : Below y3.heap.size y3 ((y4.alloc (.cells #[.int .i64 0, .int .u32 0, .int .u32 0, .int .i64 0, .int .u32 0, .int .u32 0, .int .u32 0, .int .i64 0, .int .i64 0, .int .i64 0, .slice none 0 0] 73)).setRow y4.heap.size #[.int .i64 (kd : Nat), .int .u32 0, .int .u32 0, .int .i64 0, .int .u32 0, .int .u32 (i : Nat), .int .u32 (A : Nat), .int .i64 (K : Nat), .int .i64 (m : Nat), .int .i64 (k : Nat), .slice (some ⟨rg2, 0, none⟩) 2 rc2]) := below_setRow (hb4h.out.alloc hb4h.out.size _) hb4h.out.size _
                have hqz := setRow_heap (y4.alloc (.cells #[.int .i64 0, .int .u32 0, .int .u32 0, .int .i64 0, .int .u32 0, .int .u32 0, .int .u32 0, .int .i64 0, .int .i64 0, .int .i64 0, .slice none 0 0] 73)) y4.heap.size _ #[.int .i64 (kd : Nat), .int .u32 0, .int .u32 0, .int .i64 0, .int .u32 0, .int .u32 (i : Nat), .int .u32 (A : Nat), .int .i64 (K : Nat), .int .i64 (m : Nat), .int .i64 (k : Nat), .slice (some ⟨rg2, 0, none⟩) 2 rc2] 73 (0, 0) (last_block0 y4 (.cells #[.int .i64 0, .int .u32 0, .int .u32 0, .int .i64 0, .int .u32 0, .int .u32 0, .int .u32 0, .int .i64 0, .int .i64 0, .int .i64 0, .slice none 0 0] 73) _ rfl)
                have hdz : BRow ((y4.alloc (.cells #[.int .i64 0, .int .u32 0, .int .u32 0, .int .i64 0, .int .u32 0, .int .u32 0, .int .u32 0, .int .i64 0, .int .i64 0, .int .i64 0, .slice none 0 0] 73)).setRow y4.heap.size #[.int .i64 (kd : Nat), .int .u32 0, .int .u32 0, .int .i64 0, .int .u32 0, .int .u32 (i : Nat), .int .u32 (A : Nat), .int .i64 (K : Nat), .int .i64 (m : Nat), .int .i64 (k : Nat), .slice (some ⟨rg2, 0, none⟩) 2 rc2]) rg2 2 (grD K (fun t => In (A + t)) k) := by
                  have hB1 : Below y4.heap.size y4 ((y4.alloc (.cells #[.int .i64 0, .int .u32 0, .int .u32 0, .int .i64 0, .int .u32 0, .int .u32 0, .int .u32 0, .int .i64 0, .int .i64 0, .int .i64 0, .slice none 0 0] 73)).setRow y4.heap.size #[.int .i64 (kd : Nat), .int .u32 0, .int .u32 0, .int .i64 0, .int .u32 0, .int .u32 (i : Nat), .int .u32 (A : Nat), .int .i64 (K : Nat), .int .i64 (m : Nat), .int .i64 (k : Nat), .slice (some ⟨rg2, 0, none⟩) 2 rc2]) := below_setRow ((Below.refl _ _).alloc (Nat.le_refl _) _) (Nat.le_refl _) _
                  exact hdrh.out.below hB1 hdrh.out.lt
                generalize World.setRow (World.alloc y4 _) _ _ = y5 at *
                rw [hq5] at hqz ⊢
                have b5 := blk_of hqz
                have hX5 : Hid (Below xx X0 y5) := hide (hX3.out.trans (hBz.mono (Nat.le_of_lt hG3.out.lt)))
                have hq5' : Hid (y5.heap[q]? = some (.cells (lostA F) 67 (0, 0))) := hide ((hBz.block q (Array.getElem?_eq_some_iff.1 hq3.out).1).trans hq3.out)
                have hta := gs_take xx pp i A K m (nl F k) k rg2 rc2 (fun t => In (A + t)) (inL In A) y5 (hG3.out.below hBz) (by omega) (by omega) hK1 hK8 hm6 (by omega) (nl_le F k) (hF.out y5 hX5.out).2.2.1 hpx hdz (fun t => hInh.out _)
                unfold dgV at hta
                rw [hkdh.out] at hta
                have htah := Lib.hid hta
                clear hBz hqz hdz hta hb4h hdrh
                go_wp2_with fail
                refine htah.out.mono ?_
                rintro e y6 ⟨⟨zr, rfl⟩, hG6, hB6, hK6⟩
                have hst : Hid (R3 X0 xx pp i A K m q F (fun t => In (A + t)) (inL In A) (.int .i64 ((k + 1 : Nat) : Int)) y6) := hide ⟨k + 1, rfl, by omega, by rw [nl_came F k hFk2]; exact hG6, hK6 q _ hq5'.out, hX5.out.trans hB6⟩
                clear hG6 hB6 hK6 htah b5
                go_wp2_with fail
                refine ⟨?_, ?_⟩
                rotate_left
                · simpa [intOf] using hmeas
                first
                  | exact hst.out
                  | (repeat (apply Exists.intro)
                     exact ⟨hst.out, rfl⟩)
                  | (iterate 50 (apply Exists.intro)
                     exact ⟨hst.out, rfl⟩)
            · obtain rfl : KM = k := by omega
              have i2 : decide ((KM : Int) < (KM : Int)) = false := by simp
              have hnlK : K ≤ nl F KM := by have := hnlh.out; omega
              have hT := hGh.out.done hnlK
              rw [inL_app, hAKh.out] at hT
              have hst : Hid (R1 X0 xx pp n S m la In (.int .i64 ((c : Int) + (m : Int))) (.int .i64 ((i + 1 : Nat) : Int)) wr) := hide ⟨i + 1, c + m, rfl, rfl, by omega, by rw [Nat.succ_mul]; have := hch.out; omega, hT, hB3h.out⟩
              have iw4 : IntKind.i64.wrap ((i : Int) + 1) = ((i + 1 : Nat) : Int) := by rw [IntWalk.i64_in _ (by omega)]; omega
              have hmeas : n - (i + 1) < n - i := by omega
              clear hT f1 f2 f3 f4 hrow g0 g1 g2 g3
              go_wp2_with fail
              refine ⟨?_, ?_⟩
              rotate_left
              · simpa [intOf] using hmeas
              first
                | exact hst.out
                | (repeat (apply Exists.intro)
                   exact ⟨hst.out, rfl⟩)
                | (iterate 100 (apply Exists.intro)
                   exact ⟨hst.out, rfl⟩)
    · obtain rfl : n = i := by omega
      have i1 : decide ((n : Int) < (n : Int)) = false := by simp
      have hTn : ToldSt wr xx pp n la (inL In la) := by
        have := hToh.out
        rw [Nat.min_eq_right hnS] at this
        exact this
      clear hToh hch
      go_upto_region 34 with (fail)
      obtain ⟨rdy, rd, rm, hwn, hvn⟩ := hTn
      obtain ⟨rs, rcap, rfl, _⟩ := hvn.form
      have krd := Lib.hid (re_ready xx pp n la (.slice rs la rcap) rd rm pz wr hwn)
      have hty := hwn.type
      have hvnh := Lib.hid hvn
      clear hwn hvn
      go_wp2_with fail
      refine krd.out.mono ?_
      rintro e Y ⟨rfl, hwY, hgY⟩
      have hvY : Hid (VAt Y xx 34 1 (.slice rs la rcap) la (inL In la)) := hide (hvnh.out.other hgY (fun b hb => by cases hb; obtain ⟨C, hC⟩ := hty; exact ⟨C, _, hC, by decide⟩))
      have hXY : Hid (Below xx X0 Y) := hide (below_grown hBh.out (Nat.le_of_lt hxX) hgY (fun b hb => by cases hb; exact Nat.le_refl _))
      obtain ⟨_, _, _, f4, hBwY⟩ := hF.out Y hXY.out
      have c0 := (cell_of_block f4).trans (show #[Value.slice a la ca, .int .i64 (S : Nat), .int .i64 (m : Nat), .slice b lb cb][0]? = some (.slice a la ca) from rfl)
      have kfr := Lib.hid (fun y (hy : Below Y.heap.size Y y) => re_frames xx pp n la (.slice none 0 0) rd rm pz y (hwY.below hy))
      have hzY := Lib.hid (hzIh.out.below hBwY)
      have hBwYh := Lib.hid hBwY
      have hne : ((la : Int) != (la : Int)) = false := by simp
      clear krd hgY hwY f4 hBwY hty hvnh
      go_upto_region 35 with (fail)
      go_quiet ((go_at_call 27; exact Calls.quiet_of_same ((kfr.out _ (by first | exact Below.refl _ _ | exact below_drewN (Below.refl _ _) _)).mono fun _ _ hx => ⟨hx.1, hx.2.symm⟩)))
      go_upto_region 38 with (fail)
      obtain ⟨V, hV⟩ : ∃ V, Y.drewN nq = V := ⟨_, rfl⟩
      rw [hV]
      have hBV : Below Y.heap.size Y V := hV ▸ below_drewN (Below.refl _ _) _
      have hBwV : Hid (∀ q, Below w.heap.size w (V.drewN q)) := hide (fun q => below_drewN (hBwYh.out.trans (hBV.mono hBwYh.out.size)) q)
      have hzV := Lib.hid (hzY.out.below hBV)
      have hvV := Lib.hid (hvY.out.below hBV)
      have c0V : V.cell? ⟨z, 0, none⟩ = some (.slice a la ca) := (hBV.cell (cell_block_lt c0)).trans c0
      clear c0 hV hBV hvY hzY kfr hBwYh hne
      go_loopw [20] (fun v20 wr => ∃ j nd : Nat, v20 = .int .i64 (j : Nat) ∧ j ≤ la ∧ wr = V.drewN nd) (fun v20 _ => la - (intOf v20).toNat)
      case atStart => exact ⟨0, 0, rfl, Nat.zero_le _, rfl⟩
      case round =>
        obtain ⟨j, nd, rfl, hj, rfl⟩ := hrel
        have hend := Lib.hid (fun q => hBwV.out q)
        by_cases hlj : j < la
        · have i2 : (j : Int) < (la : Int) := by omega
          obtain ⟨ab, ao, rfl, d1⟩ := hzV.out j hlj
          obtain ⟨sb, so, sc, e6, _⟩ := hvV.out.ptr (by omega)
          cases e6
          have d2 := hvV.out.cells rfl j _ (inL_at (In := In) hlj)
          have hne2 : (((In j : Nat) : Int) != ((In j : Nat) : Int)) = false := by simp
          obtain ⟨x, hx⟩ : ∃ x, In j = x := ⟨_, rfl⟩
          have d1' : V.cell? ⟨ab, ao + j, none⟩ = some (.int .u16 (In j : Nat)) := d1
          clear d1
          rw [hx] at d1' d2 hne2
          have iw5 : IntKind.i64.wrap ((j : Int) + 1) = ((j + 1 : Nat) : Int) := by rw [IntWalk.i64_in _ (by omega)]; omega
          have hmeas : la - (j + 1) < la - j := by omega
          have hne3 : (x != x) = false := by simp
          clear hx
          go_upto_region 40 with (fail)
          go_quiet (fail)
          go_wp2_with fail
          refine ⟨?_, ?_⟩
          rotate_left
          · simpa [intOf] using hmeas
          first
            | exact ⟨j + 1, _, rfl, by omega, rfl⟩
            | (repeat (apply Exists.intro)
               exact ⟨⟨rfl, by omega, rfl⟩, rfl⟩)
            | (iterate 30 (apply Exists.intro)
               exact ⟨⟨rfl, by omega, rfl⟩, rfl⟩)
        · obtain rfl : la = j := by omega
          have i2 : decide ((la : Int) < (la : Int)) = false := by simp
          go_wp2_with fail
          go_ret
          exact ⟨rfl, hend.out nd⟩
end Go.Proofs.Ytmfagdbocidfjaa
