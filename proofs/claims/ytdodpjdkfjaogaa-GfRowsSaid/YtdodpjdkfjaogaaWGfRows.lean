/- The walk of the law GfRows: it answers true for every byte and every two slices of bytes. -/
import Derived.Test.YtdodpjdkfjaogaaGfRows
namespace Go.Proofs.Ytdodpjdkfjaogaa
open Go.RowKit
attribute [local irreducible] gexp gtbl glog rmul rinv rpow zexp scaled rowB dotN mixed
theorem rmul_all (a : Nat) (l : List Nat) (k x : Nat) (hx : l[k]? = some x) : (l.map (rmul a))[k]? = some (rmul a x) := by rw [List.getElem?_map, hx]; rfl
set_option maxRecDepth 100000 in
set_option maxHeartbeats 2000000 in
theorem gfRows_walk (a0 : Int) (a1 : Option Addr) (len1 cap1 : Nat) (z1 : List Int) (a2 : Option Addr) (len2 cap2 : Nat) (z2 : List Int) (w : World) (w0 : (Lit.int .u8 a0).wf = true) (w1 : IsRow .u8 w a1 len1 cap1 z1) (w2 : IsRow .u8 w a2 len2 cap2 z2) :
    Calls Try.prog 8 #[.int .u8 a0, .slice a1 len1 cap1, .slice a2 len2 cap2] w fun e w' => e = .returned (.bool true) ∧ Below w.heap.size w w' := by
  obtain ⟨a, rfl, ha⟩ := u8_nat w0
  obtain ⟨x, hlx, hx1, hx2, hxb, hxs⟩ := isRow_nat w1 256 u8_bd
  obtain ⟨y, hly, hy1, hy2, hyb, hys⟩ := isRow_nat w2 256 u8_bd
  have hnone : a2 = none → len2 = 0 ∧ cap2 = 0 := fun h => by subst h; exact isRow_none w2
  unfold maxLen at hx2 hy2
  clear w0 w1 w2
  subst hlx hly
  have hxbh := hide hxb
  have hybh := hide hyb
  have hxsh := hide hxs
  have hysh := hide hys
  have hnoneh := Lib.hid hnone
  clear hxb hyb hxs hys hnone
  by_cases hbx : 2000 < x.length
  · go_enter Try.func8, Try.ntmps8
    go_wp2_with fail
    refine (gf_awake w).mono ?_
    rintro e w1 ⟨rfl, hb1⟩
    go_wp2_with fail
    go_ret
    exact ⟨rfl, hb1⟩
  by_cases hby : 2000 < y.length
  · go_enter Try.func8, Try.ntmps8
    go_wp2_with fail
    refine (gf_awake w).mono ?_
    rintro e w1 ⟨rfl, hb1⟩
    go_wp2_with fail
    go_ret
    exact ⟨rfl, hb1⟩
  obtain ⟨i0, hi, hz0, hz1, hz2⟩ := info_parts info8
  go_enter Try.func8, Try.ntmps8
  go_wp2_with fail
  refine (gf_awake w).mono ?_
  rintro e w1 ⟨rfl, hb1⟩
  go_wp2_with fail
  refine (gf_new w1).mono ?_
  rintro e w2 ⟨rfl, n, hw2⟩
  have hg2 : IsGf w2 w1.heap.size := by rw [hw2]; exact IsGf.made w1 n
  have hb2 : Below w.heap.size w w2 := by rw [hw2]; exact below_drewN (hb1.alloc hb1.size _) _
  have hG : w.heap.size ≤ w1.heap.size := hb1.size
  have hG2 : w1.heap.size < w2.heap.size := hg2.lt
  have hg2h := hide hg2
  clear hw2 hg2
  go_wp2_with fail
  refine (gf_scale w1.heap.size a a1 cap1 x w2 hg2h.out ha (hxsh.out.below hb2) hxbh.out (by omega)).mono ?_
  rintro e w3 ⟨g1, rfl, hS, hb3⟩
  have hlm : (x.map (rmul a)).length = x.length := List.length_map _
  rw [hlm] at hS ⊢
  have hb3' : Below w.heap.size w w3 := hb2.trans (hb3.mono (by omega))
  have hs3 : w2.heap.size ≤ w3.heap.size := hb3.size
  have hg3 : IsGf w3 w1.heap.size := hg2h.out.below hb3 hG2
  have hg1 : w2.heap.size ≤ g1 ∧ g1 < w3.heap.size := hS.lt g1 rfl
  have hSh := hide hS
  have hg3h := hide hg3
  clear hS hg3 hb3 hlm hg2h
  have hown0 := World.ownsRow_lit (base := w3.heap.size) (e := 5) (size := 1) w3 #[] 0 (Nat.le_refl _) (by unfold maxLen; omega) rfl
  have hownh := hide hown0
  clear hown0
  have hlz : w3.heap.size < (w3.alloc (.cells #[] 5)).heap.size := by show _ < (w3.heap.push _).size; rw [Array.size_push]; omega
  go_wp2_with (at_builtin; refine wpList_app8 rfl (.tmp 28) (.tmp 29) rfl w3.heap.size rfl hownh.out a2 cap2 y rfl (SlN.below hysh.out (hb3'.alloc hb3'.size _)) hnoneh.out (by omega) hlz ?_; intro g2 c2 w4 hg2a hg2b hM hgr)
  have hB4 : Below w3.heap.size w3 w4 := below_of_only ((Below.refl _ _).alloc (Nat.le_refl _) _) hgr (Nat.le_of_lt hlz) (Nat.le_refl _)
  have hs4 : w3.heap.size ≤ w4.heap.size := hB4.size
  have hb4 : Below w.heap.size w w4 := hb3'.trans (hB4.mono (by omega))
  have hg4 : IsGf w4 w1.heap.size := hg3h.out.below hB4 (by omega)
  refine (gf_mix w1.heap.size g2 c2 w3.heap.size a a1 cap1 y x w4 hg4 (by omega) hM (hxsh.out.below hb4) ?htg ha hybh.out hxbh.out (by omega) (by omega)).mono ?_
  case htg =>
    intro bb o he hne
    obtain ⟨b', o', h', hl'⟩ := SlN.block_lt hxsh.out hne
    rw [he] at h'
    injection h' with h'
    injection h' with h1
    omega
  rintro e w5 ⟨rfl, hM5, hgr5⟩
  have hB5 : Below w3.heap.size w3 w5 := below_of_only hB4 hgr5 hs4 hg2a
  have hs5 : w4.heap.size ≤ w5.heap.size := hgr5.size
  have hb5 : Below w.heap.size w w5 := hb3'.trans (hB5.mono (by omega))
  have hg5 := hide (hg3h.out.below hB5 (by omega))
  have hsl5 := hide ((own_sl hSh.out).below hB5)
  have hx5 := hide (hxsh.out.below hb5)
  have hy5 := hide (hysh.out.below hb5)
  have hM5h := hide hM5
  clear hgr hB4 hb4 hg4 hM5 hM hgr5
  go_wp2_with fail
  refine (gf_dot w1.heap.size a1 a2 cap1 cap2 x y w5 hg5.out hx5.out hy5.out hxbh.out hybh.out (by omega) (by omega)).mono ?_
  rintro e w6 ⟨rfl, n6, hw6⟩
  have hw6h := hide hw6
  have hx6 : SlN .u8 w6 a1 x := by rw [hw6]; exact hx5.out.drewN _
  have hy6 : SlN .u8 w6 a2 y := by rw [hw6]; exact hy5.out.drewN _
  have hx6h := hide hx6
  have hy6h := hide hy6
  clear hw6 hx6 hy6
  go_wp2_with fail
  refine (ref_dot a1 a2 cap1 cap2 x y w6 hx6h.out hy6h.out hxbh.out hybh.out (by omega) (by omega)).mono ?_
  rintro e w7 ⟨rfl, n7, hw7⟩
  have hw : w7 = (w5.drewN n6).drewN n7 := by rw [hw7, hw6h.out]
  have hB7 : Below w3.heap.size w3 w7 := by rw [hw]; exact below_drewN (below_drewN hB5 _) _
  have hb7 : Below w.heap.size w w7 := by rw [hw]; exact below_drewN (below_drewN hb5 _) _
  have hM7 : w7.ownsRow w3.heap.size 5 1 (.slice (some ⟨g2, 0, none⟩) y.length c2) y.length (rowB (mixed a y x (min y.length x.length))) := by rw [hw]; exact own_drewN (own_drewN hM5h.out _) _
  have hm7 := hide (own_sl hM7)
  have hg2c : g2 < w7.heap.size := by rw [hw]; show g2 < w5.heap.size; omega
  have hs7 : w5.heap.size ≤ w7.heap.size := by rw [hw]; exact Nat.le_refl _
  have hx7 := hide (hxsh.out.below hb7)
  have hy7 := hide (hysh.out.below hb7)
  have hsl7 := hide ((own_sl hSh.out).below hB7)
  clear hw hw7 hM7 hw6h hx6h hy6h hM5h hsl5 hx5 hy5 hg5 hB5 hb5
  have hown7 := World.ownsRow_lit (base := w7.heap.size) (e := 5) (size := 1) w7 #[] 0 (Nat.le_refl _) (by unfold maxLen; omega) rfl
  have hown7h := hide hown7
  clear hown7
  have hlz7 : w7.heap.size < (w7.alloc (.cells #[] 5)).heap.size := by show _ < (w7.heap.push _).size; rw [Array.size_push]; omega
  go_wp2_with (at_builtin; refine wpList_app8 rfl (.tmp 58) (.tmp 59) rfl w7.heap.size rfl hown7h.out a2 cap2 y rfl (SlN.below hysh.out (hb7.alloc hb7.size _)) hnoneh.out (by omega) hlz7 ?_; intro g3 c3 w8 hg3a hg3b hW hgr8)
  have hB8 : Below w7.heap.size w7 w8 := below_of_only ((Below.refl _ _).alloc (Nat.le_refl _) _) hgr8 (Nat.le_of_lt hlz7) (Nat.le_refl _)
  have hWh := hide hW
  have hwid : w.heap.size ≤ w7.heap.size := hb7.size
  clear hgr8 hW hlz hlz7 hown7h
  go_loopw [11] (fun i wr => ∃ k : Nat, k ≤ x.length ∧ i = .int .i64 k ∧ wr.ownsRow w7.heap.size 5 1 (.slice (some ⟨g3, 0, none⟩) y.length c3) y.length (rowB (mixed a y x (min k y.length))) ∧ Below w7.heap.size w7 wr) (fun i _ => x.length - (intOf i).toNat)
  case atStart => exact ⟨0, by omega, rfl, by rw [Nat.zero_min, mixed_zero]; exact hWh.out, hB8⟩
  case round =>
    obtain ⟨k, hk, rfl, hown, hbel⟩ := hrel
    by_cases hlt : k < x.length
    · obtain ⟨xv, hxv⟩ : ∃ xv, x[k]? = some xv := ⟨_, List.getElem?_eq_getElem (by omega)⟩
      obtain ⟨b1, o1, rfl, hc1⟩ := (hx7.out.below hbel) k xv hxv
      obtain ⟨_, _, hse, hcs⟩ := (hsl7.out.below hbel) k (rmul a xv) (rmul_all a x k xv hxv)
      cases hse
      rw [Nat.zero_add] at hcs
      have hx2 := hxbh.out xv (List.mem_of_getElem? hxv)
      have i1 : (k : Int) < (x.length : Int) := by omega
      by_cases hky : k < y.length
      · obtain ⟨yv, hyv⟩ : ∃ yv, y[k]? = some yv := ⟨_, List.getElem?_eq_getElem hky⟩
        have hy2 := hybh.out yv (List.mem_of_getElem? hyv)
        have hmk : Hid (min k y.length = k) := hide (by omega)
        have hcw : wr.cell? ⟨g3, k, none⟩ = some (.int .u8 yv) := by rw [hown.cellAt k (by omega), rowB_get, mixed_old _ _ _ _ _ (by omega), hyv]; rfl
        have hfw := hown.frozenAt k
        have he : Hid (mixed a y x (min (k + 1) y.length) = (mixed a y x (min k y.length)).set k (yv ^^^ rmul a xv)) := hide (by rw [hmk.out, Nat.min_eq_left (by omega)]; exact mixed_succ a y x k yv xv hyv hxv)
        have hu := hide (u8_xor_nat yv (rmul a xv) hy2 (rmul_lt a xv))
        have i2 : (k : Int) < (y.length : Int) := by omega
        have hownh2 := hide hown
        clear hown hxv hyv
        go_wp2_with fail
        refine (ref_mul a xv wr ha hx2).mono ?_
        rintro e w' ⟨rfl, rfl⟩
        go_wp2_with fail
        rw [hu.out]
        go_roundw
        case rel =>
          refine ⟨k + 1, by omega, by go_num, ?_, hbel.setCell hg3a _⟩
          rw [he.out, ← rowB_set]
          exact (World.ownsRow.stored hownh2.out k _).1
        case measure => simp [intOf]; omega
      · have he : Hid (min (k + 1) y.length = min k y.length) := hide (by omega)
        have hd : decide ((k : Int) < (y.length : Int)) = false := decide_eq_false (by omega)
        have hownh2 := hide hown
        clear hown hxv
        go_wp2_with fail
        refine (ref_mul a xv wr ha hx2).mono ?_
        rintro e w' ⟨rfl, rfl⟩
        go_wp2_with fail
        go_roundw
        case rel =>
          refine ⟨k + 1, by omega, by go_num, ?_, hbel⟩
          rw [he.out]
          exact hownh2.out
        case measure => simp [intOf]; omega
    · obtain rfl : k = x.length := by omega
      have hmw : SlN .u8 wr (some ⟨g3, 0, none⟩) (mixed a y x (min y.length x.length)) := by rw [Nat.min_comm]; exact own_sl hown
      have hmm := hm7.out.below hbel
      have hsame := r_same (some ⟨g2, 0, none⟩) (some ⟨g3, 0, none⟩) c2 c3 (mixed a y x (min y.length x.length)) wr hmm hmw (by rw [mixed_length]; omega)
      rw [mixed_length] at hsame
      have hsh := Lib.hid hsame
      have hbf : Below w.heap.size w wr := hb7.trans (hbel.mono hwid)
      clear hown hmw hmm hsame
      go_wp2_with fail
      refine hsh.out.mono ?_
      rintro e w' ⟨rfl, n, rfl⟩
      go_wp2_with fail
      go_ret
      exact ⟨rfl, below_drewN hbf _⟩
end Go.Proofs.Ytdodpjdkfjaogaa
