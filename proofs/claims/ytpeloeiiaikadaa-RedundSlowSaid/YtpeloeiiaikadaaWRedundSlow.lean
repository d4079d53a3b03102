/- The walk of the law RedundSlow: it answers true for all groups. -/
import Derived.Test.YtpeloeiiaikadaaWRedundPlays
namespace Go.Proofs.Ytpeloeiiaikadaa
open Go.RowKit
theorem ct_slow (s : CtS) (t : Int) : t ≤ (ctNext s t).now ∧ s.now - 1 ≤ (ctNext s t).now ∧ ((ctNext s t).now < s.now → 7 ≤ s.calm ∧ (ctNext s t).calm = 0) ∧ (ctNext s t).calm ≤ max (s.calm + 1) 0 := by
  unfold ctNext
  split
  · refine ⟨by simp only; omega, by simp only; omega, fun h => by simp only at h; omega, by simp only; omega⟩
  · split
    · refine ⟨by simp only; omega, by simp only; omega, fun _ => ⟨by omega, rfl⟩, by simp only; omega⟩
    · refine ⟨by simp only; omega, by simp only; omega, fun h => by simp only at h; omega, by simp only; omega⟩
attribute [local irreducible] tgZ
attribute [local irreducible] blk wLoad wLoadRes loadAns wStore wStoreRes storeAns Plain
set_option maxRecDepth 100000 in
set_option maxHeartbeats 4000000 in
theorem redundSlow_walk (a0 : Int) (a1 : Option Addr) (len1 cap1 : Nat) (w : World) (w0 : (Lit.int .i64 a0).wf = true) (w1 : IsRec [some .i64, some .i64] w a1 len1 cap1) :
    Calls Try.prog 5 #[.int .i64 a0, .slice a1 len1 cap1] w fun e w' => e = .returned (.bool true) ∧ Below w.heap.size w w' := by
  obtain ⟨g, hg⟩ := asks_open w1
  have hn : len1 ≤ 9223372036854775807 := by obtain ⟨_, _, _, h1, h2, _⟩ := w1; unfold maxLen at h2; omega
  have hgh := hide hg
  clear w0 w1 hg
  by_cases hr : a0 < 0 ∨ 16 < a0
  · have kn := Lib.hid (fun X => s_new_no a0 X hr)
    clear hr
    go_enter Try.func5, Try.ntmps5
    go_wp2_with fail
    refine (rd_awake w).mono ?_
    rintro e w1 ⟨rfl, hb1⟩
    go_wp2_with fail
    refine (kn.out _).mono ?_
    rintro e w' ⟨rfl, rfl⟩
    go_wp2_with fail
    go_ret
    exact ⟨rfl, hb1⟩
  have m0 : 0 ≤ a0 := by omega
  have m1 : a0 ≤ 16 := by omega
  have kn := Lib.hid (fun X => s_new_ok a0 X m0 m1)
  clear hr
  go_enter Try.func5, Try.ntmps5
  go_wp2_with fail
  refine (rd_awake w).mono ?_
  rintro e w1 ⟨rfl, hb1⟩
  have hs1 := hb1.size
  go_wp2_with fail
  refine (kn.out _).mono ?_
  rintro e w2 ⟨rfl, hC, hb2⟩
  have hB := hb1.trans (hb2.mono hs1)
  clear hb1 hb2 kn
  generalize w1.heap.size = p at *
  have hCh := Lib.hid hC
  have hBh := Lib.hid hB
  clear hC hB
  go_wp2_with fail
  go_loopw [7, 8] (fun la i wr => ∃ (k : Nat) (now calm last : Int), k ≤ len1 ∧ k ≤ 200 ∧ i = .int .i64 k ∧ la = .int .i64 last ∧ -8 ≤ last ∧ last < k ∧ calm < k - last ∧ now ≤ a0 ∧ CtOk ⟨now, a0, calm⟩ ∧ CtAt wr p ⟨now, a0, calm⟩ ∧ Below w.heap.size w wr) (fun _ i _ => len1 - (intOf i).toNat)
  case atStart => exact ⟨0, 0, 0, -8, by omega, by omega, rfl, rfl, by omega, by omega, by omega, m0, ⟨by simp, by simp, m0, m1, by simp, by simp⟩, hCh.out, hBh.out⟩
  case round =>
    obtain ⟨k, now, calm, last, hk, hk2, rfl, rfl, l0, l1, l2, l3, hok, rK, hB⟩ := hrel
    clear hCh hBh
    by_cases hlt : k < len1
    · by_cases hlt2 : k < 200
      · obtain ⟨bb, off, rfl, c0', c1'⟩ := hgh.out k hlt
        have hbb : bb < w.heap.size := cell_block_lt c0'
        have c0 := (hB.cell (p := ⟨bb, off + k * 2, none⟩) hbb).trans c0'
        have c1 := (hB.cell (p := ⟨bb, off + k * 2 + 1, none⟩) hbb).trans c1'
        have c0h := Lib.hid c0'
        have c1h := Lib.hid c1'
        clear c0' c1'
        have i1 : (k : Int) < (len1 : Int) := by omega
        generalize (g k).1 = kd at *
        generalize (g k).2 = ls at *
        have htb := tgZ_bd kd ls a0
        have t0 : 0 ≤ tgZ kd ls a0 := htb.1
        have t1 : tgZ kd ls a0 ≤ 16 := by have := htb.2; omega
        have hok2 := ctNext_ok ⟨now, a0, calm⟩ (tgZ kd ls a0) hok htb.1 htb.2
        have hsn := Lib.hid (fun X hX => s_next p ⟨now, a0, calm⟩ kd ls X hX hok t0 t1)
        have htg := Lib.hid (fun X => s_target kd ls a0 X)
        obtain ⟨q0, q1, q2, q3⟩ := ct_slow ⟨now, a0, calm⟩ (tgZ kd ls a0)
        have hmo := ctNext_most ⟨now, a0, calm⟩ (tgZ kd ls a0)
        have hup : (ctNext ⟨now, a0, calm⟩ (tgZ kd ls a0)).now ≤ a0 := by
          have h := htb.2
          unfold ctNext; split <;> (try split) <;> simp only <;> omega
        simp only at hmo hsn q0 q1 q2 q3 hup
        generalize ctNext ⟨now, a0, calm⟩ (tgZ kd ls a0) = s2 at *
        obtain ⟨now2, mo, calm2⟩ := s2
        simp only at hmo q0 q1 q2 q3 hup
        subst hmo
        generalize tgZ kd ls mo = t at *
        obtain ⟨n0, n1, _, _, k0, k1⟩ := hok
        simp only at n0 n1 k0 k1
        have n2 := hok2.n0
        simp only at n2
        clear htb t0 t1
        have d0 := rK.c0
        have rKh := Lib.hid rK
        have pl := rK.lt
        have q2h := Lib.hid q2
        clear rK q2
        go_upto_region 11 with (fail)
        clear d0
        go_still_tail 11, (by kernel_rfl)
        have hBs := hB.size
        change wpList _ _ _ _ _ wr.drew
        go_wp2_with fail
        refine (hsn.out _ (blk_drew rKh.out)).mono ?_
        rintro e w3 ⟨rfl, hC3, hg3⟩
        have yB : Below w.heap.size w w3 := below_of_only (below_drewN hB 1) hg3 hBs (by omega)
        have hCl := Lib.hid (fun (x : World) (hb : Below w3.heap.size w3 x) => (⟨(yB.trans (hb.mono yB.size)), (hb.block p hC3.lt).trans hC3⟩ : Below w.heap.size w x ∧ CtAt x p ⟨now2, mo, calm2⟩))
        clear hg3 hB c0 c1 rKh hsn yB hC3
        have hin := Lib.hid (fun (x : World) (hb : Below w3.heap.size w3 x) => (⟨((hCl.out x hb).1.cell (p := ⟨bb, off + k * 2, none⟩) hbb).trans c0h.out, ((hCl.out x hb).1.cell (p := ⟨bb, off + k * 2 + 1, none⟩) hbb).trans c1h.out, hb⟩ : x.cell? ⟨bb, off + k * 2, none⟩ = some (.int .i64 kd) ∧ x.cell? ⟨bb, off + k * 2 + 1, none⟩ = some (.int .i64 ls) ∧ Below w3.heap.size w3 x))
        have hclh := Lib.hid (fun (x x' : World) (h : x.cell? ⟨bb, off + k * 2, none⟩ = some (.int .i64 kd) ∧ x.cell? ⟨bb, off + k * 2 + 1, none⟩ = some (.int .i64 ls) ∧ Below w3.heap.size w3 x) (hb : Below x.heap.size x x') => hin.out x' (below_step h.2.2 h.2.2.size hb))
        have d1 : decide (now2 < 0) = false := decide_eq_false (by omega)
        have d2 : decide (mo < now2) = false := decide_eq_false (by omega)
        have d3 : decide (now2 < t) = false := decide_eq_false (by omega)
        have d4 : decide (now2 < now - 1) = false := decide_eq_false (by omega)
        have d5 : IntKind.i64.wrap (now - 1) = now - 1 := IntWalk.i64_in _ (by omega)
        go_upto_region 12 with (fail)
        refine wp_region_quiet (C := fun x => x.cell? ⟨bb, off + k * 2, none⟩ = some (.int .i64 kd) ∧ x.cell? ⟨bb, off + k * 2 + 1, none⟩ = some (.int .i64 ls) ∧ Below w3.heap.size w3 x) (by kernel_rfl) (by kernel_rfl) (hin.out _ (below_drewN (Below.refl _ _) 1)) ?_
        repeat (first
          | (refine q_run (v := ?_) ?_ ?_ ?_
             rotate_left
             · rfl
             · (intro x hSx; (try dsimp only at hSx); go_simp <;> with_reducible rfl)
             simp only [Act.put, List.setIfInBounds_toArray, List.set_cons_zero, List.set_cons_succ])
          | (refine q_skip ?_ ?_
             · rfl
             simp only [Act.put, List.setIfInBounds_toArray, List.set_cons_zero, List.set_cons_succ])
          | (refine q_call (fun x _ => htg.out x) hclh.out ?_ ?_ ?_
             · rfl
             · (intro x hSx; (try dsimp only at hSx); go_simp <;> with_reducible rfl)
             simp only [Act.put, List.setIfInBounds_toArray, List.set_cons_zero, List.set_cons_succ]))
        refine wpQuiet_nil ?_
        intro x hSx
        have hfin := Lib.hid (hCl.out _ hSx.2.2)
        clear hSx hCl hin hclh d1 d2 d3 d4 d5
        by_cases hd : now2 < now
        · have q4 := (q2h.out hd).1
          have q5 := (q2h.out hd).2
          have d1 : decide (now2 < now) = true := decide_eq_true hd
          have d2 : decide ((k : Int) - last < 8) = false := decide_eq_false (by omega)
          have q6 := Lib.hid q5
          clear q5
          go_wp2_with fail
          go_roundw
          case rel => exact ⟨k + 1, now2, calm2, k, by omega, by omega, by go_num, rfl, by omega, by omega, by have := q6.out; omega, hup, hok2, hfin.out.2, hfin.out.1⟩
          case measure => simp [intOf]; omega
        · have d1 : decide (now2 < now) = false := decide_eq_false hd
          go_wp2_with fail
          go_roundw
          case rel => exact ⟨k + 1, now2, calm2, last, by omega, by omega, by go_num, rfl, by omega, by omega, by omega, hup, hok2, hfin.out.2, hfin.out.1⟩
          case measure => simp [intOf]; omega
      · have hd2 : decide ((k : Int) < 200) = false := decide_eq_false (by omega)
        go_wp2_with fail
        go_ret
        exact ⟨rfl, hB⟩
    · have hd1 : decide ((k : Int) < (len1 : Int)) = false := decide_eq_false (by omega)
      go_wp2_with fail
      go_ret
      exact ⟨rfl, hB⟩
end Go.Proofs.Ytpeloeiiaikadaa
