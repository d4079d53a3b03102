/- ShakeMeets: the loop in which all comes that they say. Conditions: what the two ends and the two queues hold. -/
import Derived.Test.YtdpngimcmohmaaaShMt3
import Derived.Deep.QuietTactic
import Derived.Deep.DeepCutAuto
import Derived.IntWalk
namespace Go.Proofs.Ytdpngimcmohmaaa
open Go.RowKit
set_option maxRecDepth 100000 in
/-- a frame, slot by slot -/
theorem frame237 (t : Array Value) (h : t.size = 237) : ∃ x : Nat → Value, t = List.toArray (x 0 :: x 1 :: x 2 :: x 3 :: x 4 :: x 5 :: x 6 :: x 7 :: x 8 :: x 9 :: x 10 :: x 11 :: x 12 :: x 13 :: x 14 :: x 15 :: x 16 :: x 17 :: x 18 :: x 19 :: x 20 :: x 21 :: x 22 :: x 23 :: x 24 :: x 25 :: x 26 :: x 27 :: x 28 :: x 29 :: x 30 :: x 31 :: x 32 :: x 33 :: x 34 :: x 35 :: x 36 :: x 37 :: x 38 :: x 39 :: x 40 :: x 41 :: x 42 :: x 43 :: x 44 :: x 45 :: x 46 :: x 47 :: x 48 :: x 49 :: x 50 :: x 51 :: x 52 :: x 53 :: x 54 :: x 55 :: x 56 :: x 57 :: x 58 :: x 59 :: x 60 :: x 61 :: x 62 :: x 63 :: x 64 :: x 65 :: x 66 :: x 67 :: x 68 :: x 69 :: x 70 :: x 71 :: x 72 :: x 73 :: x 74 :: x 75 :: x 76 :: x 77 :: x 78 :: x 79 :: x 80 :: x 81 :: x 82 :: x 83 :: x 84 :: x 85 :: x 86 :: x 87 :: x 88 :: x 89 :: x 90 :: x 91 :: x 92 :: x 93 :: x 94 :: x 95 :: x 96 :: x 97 :: x 98 :: x 99 :: x 100 :: x 101 :: x 102 :: x 103 :: x 104 :: x 105 :: x 106 :: x 107 :: x 108 :: x 109 :: x 110 :: x 111 :: x 112 :: x 113 :: x 114 :: x 115 :: x 116 :: x 117 :: x 118 :: x 119 :: x 120 :: x 121 :: x 122 :: x 123 :: x 124 :: x 125 :: x 126 :: x 127 :: x 128 :: x 129 :: x 130 :: x 131 :: x 132 :: x 133 :: x 134 :: x 135 :: x 136 :: x 137 :: x 138 :: x 139 :: x 140 :: x 141 :: x 142 :: x 143 :: x 144 :: x 145 :: x 146 :: x 147 :: x 148 :: x 149 :: x 150 :: x 151 :: x 152 :: x 153 :: x 154 :: x 155 :: x 156 :: x 157 :: x 158 :: x 159 :: x 160 :: x 161 :: x 162 :: x 163 :: x 164 :: x 165 :: x 166 :: x 167 :: x 168 :: x 169 :: x 170 :: x 171 :: x 172 :: x 173 :: x 174 :: x 175 :: x 176 :: x 177 :: x 178 :: x 179 :: x 180 :: x 181 :: x 182 :: x 183 :: x 184 :: x 185 :: x 186 :: x 187 :: x 188 :: x 189 :: x 190 :: x 191 :: x 192 :: x 193 :: x 194 :: x 195 :: x 196 :: x 197 :: x 198 :: x 199 :: x 200 :: x 201 :: x 202 :: x 203 :: x 204 :: x 205 :: x 206 :: x 207 :: x 208 :: x 209 :: x 210 :: x 211 :: x 212 :: x 213 :: x 214 :: x 215 :: x 216 :: x 217 :: x 218 :: x 219 :: x 220 :: x 221 :: x 222 :: x 223 :: x 224 :: x 225 :: x 226 :: x 227 :: x 228 :: x 229 :: x 230 :: x 231 :: x 232 :: x 233 :: x 234 :: x 235 :: x 236 :: []) ∧ ∀ i, i < 237 → x i = t.getD i undef := by
  refine ⟨fun i => t.getD i undef, ?_, fun _ _ => rfl⟩
  have h1 : t = Array.ofFn (n := 237) (fun i => t.getD i undef) := by
    apply Array.ext
    · simp [h]
    · intro i h1 h2
      simp [h1]
  exact h1.trans (by kernel_rfl)
/-- the outermost loops of a piece of code, in order -/
def loopsOf : Code → List Code
  | .loop c => [.loop c]
  | .seq a b => loopsOf a ++ loopsOf b
  | .block _ c => loopsOf c
  | .scope c => loopsOf c
  | .cond _ a b => loopsOf a ++ loopsOf b
  | _ => []
noncomputable def meetsLoop : Code := (((Try.f4.body.map loopsOf).getD [])[2]?).getD .skip
attribute [local irreducible] tokZ rsA dgmA dgA opA dBuild blk wLoad wLoadRes loadAns wStore wStoreRes storeAns Plain shA StOk e1S
attribute [local go_sem ↓] dBuild_of ld_rs0 sto_rs0 ld_dg0 sto_dg0
attribute [local go_sem] dBuild_0 dBuild_5 dBuild_6 ld_rs sto_rs ld_dg sto_dg loadAns_some storeAns_some rs_size rs_plain dg_size dg_plain dgA_size blk_alloc_if blk_setRow_if blk_drew_at blk_drewN_at rowPut_some
set_option maxRecDepth 100000 in
set_option maxHeartbeats 16000000 in
theorem meets_loop (w wr : World) (t7 t8 : Nat) (p : Nat → Nat) (e : Nat → ShS) (v : Nat → Value) (Q : Nat → List Msg) (hM2 : Hid (MtAt w wr t7 t8 p e v Q)) (hG0 : Hid (GdOk e (61 + 402 * ((0 : Nat) : Int)))) (hR0 : Hid (RInv 0 e Q))
    (t : Array Value) (Q0 : Exit → Act → World → Prop) (hs : t.size = 237) (h7 : t.getD 7 undef = .pointer (some ⟨t7, 0, none⟩)) (h8 : t.getD 8 undef = .pointer (some ⟨t8, 0, none⟩)) (h20 : t.getD 20 undef = .int .i64 0)
    (hexit : ∀ (t' : Array Value) (w' : World), t'.size = 237 → t'.getD 7 undef = .pointer (some ⟨t7, 0, none⟩) → (∃ e v Q, MtAt w w' t7 t8 p e v Q ∧ (e 0).st = 2 ∧ (e 1).st = 2) → Q0 (.exit 4) ⟨t', []⟩ w') :
    Code.wp Try.prog meetsLoop Q0 ⟨t, []⟩ wr := by
  obtain ⟨x, rfl, hx⟩ := frame237 t hs
  have g7 := (hx 7 (by decide)).trans h7
  have g8 := (hx 8 (by decide)).trans h8
  have g20 := (hx 20 (by decide)).trans h20
  rw [g7, g8, g20]
  clear hs h7 h8 h20 hx g7 g8 g20
  have hz := zeroDg
  conv => arg 2; whnf
  go_loopw [20] (fun v20 wr => ∃ (n : Nat) (e : Nat → ShS) (v : Nat → Value) (Q : Nat → List Msg), n ≤ 120 ∧ v20 = .int .i64 (n : Nat) ∧ Hid (MtAt w wr t7 t8 p e v Q) ∧ Hid (GdOk e (61 + 402 * (n : Int))) ∧ Hid (RInv n e Q)) (fun v20 _ => 120 - (intOf v20).toNat)
  case atStart => exact ⟨0, e, v, Q, by omega, rfl, hM2, hG0, hR0⟩
  case round =>
    clear hM2 hG0 hR0
    obtain ⟨n, eA, vA, QA, hn1, rfl, hMA, hGA, hRA⟩ := hrel
    by_cases hn : n < 120
    · have i1 : (n : Int) < 120 := by omega
      have hlA := hRA.out.len hn1
      go_upto_region 35 with (fail)
      go_loopw [21] (fun v21 wr => ∃ (k : Nat) (e : Nat → ShS) (v : Nat → Value) (Q : Nat → List Msg), k ≤ 2 ∧ v21 = .int .i64 (k : Nat) ∧ Hid (MtAt w wr t7 t8 p e v Q) ∧ Hid (GdOk e (61 + 402 * (n : Int) + 201 * (k : Int))) ∧ Hid (Stage eA QA k e Q) ∧ (Q 0).length + (Q 1).length ≤ 87 + k) (fun v21 _ => 2 - (intOf v21).toNat)
      case atStart => exact ⟨0, eA, vA, QA, by omega, rfl, hMA, hide (hGA.out.mono (by omega)), hide ⟨rfl, rfl⟩, by omega⟩
      case round =>
        clear hMA hGA
        obtain ⟨who, eB, vB, QB, hw2, rfl, hMB, hGB, hSB, hlB⟩ := hrel
        by_cases hw : who < 2
        · have j1 : (who : Int) < 2 := by omega
          obtain ⟨o, hko⟩ : ∃ o, who + o = 1 := ⟨1 - who, by omega⟩
          have ho : o < 2 := by omega
          have hon : o ≠ who := by omega
          have i3 : IntKind.i64.wrap ((1 : Int) - (who : Int)) = (o : Int) := by rw [show (1 : Int) - (who : Int) = (o : Int) by omega]; exact IntWalk.i64_in _ (by omega)
          have i4 : (o : Int) < 2 := by omega
          have c7 := hMB.out.ptr hw
          obtain ⟨hsb, hal⟩ := (by have := hGB.out; unfold GdOk at this; exact this who hw : ShB (eB who) (61 + 402 * (n : Int) + 201 * (who : Int)) ∧ shAlive (eB who))
          have hst1 := Lib.hid (s_tick (p who) (eB who) wr (hMB.out.sh who hw) (hsb.ok (by omega)) (by have := hsb.q2; omega))
          have hGn := Lib.hid (hGB.out.tick hw)
          have htk1 := Lib.hid (tick_kind (eB who))
          have hP1 : Hid ((pTick (eB who)).2 = [] → Part who o eB QB (upd eB who (pTick (eB who)).1) QB []) := hide (Part.start0 hon eB QB)
          have hP2 := Lib.hid (Part.start hon eB QB)
          unfold pTick at hP1 hP2
          rcases hTe : shTick (eB who) with ⟨st2, ⟨x1, x2, x3⟩, fl⟩
          rw [hTe] at hst1 hGn htk1 hP1 hP2
          unfold dV at hst1
          simp only at hst1 hGn htk1 hP1 hP2
          clear hTe hsb hal
          go_wp2_with fail
          refine hst1.out.mono ?_
          rintro _ w2 ⟨rfl, hs2, hg2⟩
          have hM2 := Lib.hid (hMB.out.call hw hs2 hg2)
          clear hst1 hs2 hg2 c7
          go_upto_region 38 with (fail)
          obtain ⟨q1, _, q3, q4⟩ := box_one w2 (dgmA 0 0 0) (dgmA x1 x2 x3) 34
          have hM3 := Lib.hid (hM2.out.below q4)
          have hX3 := Lib.hid (blk_heap q1)
          obtain ⟨tx, htx⟩ : ∃ t, w2.heap.size = t := ⟨_, rfl⟩
          have hXne : Hid (∀ o, o < 2 → (vB o).ownBlock ≠ some tx) := hide (fun o ho e => by have := hM2.out.blt ho _ e; omega)
          generalize World.setRow (World.alloc w2 _) _ _ = W3 at *
          rw [htx] at hX3 ⊢
          clear q1 q3 q4 htx hM2 hMB
          go_upto_if 170 with (fail)
          go_cut [] from 159 to 222 (fun wx => ∃ (v' : Nat → Value) (Q' : Nat → List Msg), Hid (MtAt w wx t7 t8 p (upd eB who st2) v' Q') ∧ (Q' 0).length + (Q' 1).length ≤ 87 + who + 1 ∧ Hid (Part who o eB QB (upd eB who st2) Q' []))
          case first =>
            cases fl with
            | false =>
              go_wp2_with fail
              go_meet
              exact ⟨vB, QB, hM3, by omega, hide (hP1.out rfl)⟩
            | true =>
              have hx1 : x1 = 1 := htk1.out rfl
              subst hx1
              have hlq : (QB o).length ≤ 100000 := by rcases two_cases ho with rfl | rfl <;> omega
              go_upto_region 39 with (fail)
              have hMd := Lib.hid (hM3.out.below (below_drewN (Below.refl _ _) 1))
              have hXd : Hid (W3.drew.heap[tx]? = some (.cells (dgmA 1 x2 x3) 34 (0, 0))) := hide hX3.out
              have hXs : Hid (∀ y, Below W3.drew.heap.size W3.drew y → (fun y : World => blk y tx = some (.cells (dgmA 1 x2 x3) 34 (0, 0))) y) := hide (fun y hy => blk_of ((hy.block _ (Array.getElem?_eq_some_iff.1 hXd.out).1).trans hXd.out))
              have hHeld := hXs.out _ (Below.refl _ _)
              refine h_begin 11 (fun y : World => blk y tx = some (.cells (dgmA 1 x2 x3) 34 (0, 0))) rfl (by kernel_rfl) hHeld ?_
              first
                | (refine h_run (i := 0) (v := ?_) hHeld rfl (by kernel_rfl) (by kernel_rfl) (by kernel_rfl) ?_ ?_ ?_
                   rotate_left
                   · rfl
                   · (intro x hSx; (try dsimp only at hSx); go_simp <;> with_reducible rfl)
                   simp only [Act.put, List.setIfInBounds_toArray, List.set_cons_zero, List.set_cons_succ])
                | (refine h_skip (i := 0) hHeld rfl (by kernel_rfl) (by kernel_rfl) (by kernel_rfl) ?_ ?_
                   · rfl
                   simp only [Act.put, List.setIfInBounds_toArray, List.set_cons_zero, List.set_cons_succ])
              first
                | (refine h_run (i := 1) (v := ?_) hHeld rfl (by kernel_rfl) (by kernel_rfl) (by kernel_rfl) ?_ ?_ ?_
                   rotate_left
                   · rfl
                   · (intro x hSx; (try dsimp only at hSx); go_simp <;> with_reducible rfl)
                   simp only [Act.put, List.setIfInBounds_toArray, List.set_cons_zero, List.set_cons_succ])
                | (refine h_skip (i := 1) hHeld rfl (by kernel_rfl) (by kernel_rfl) (by kernel_rfl) ?_ ?_
                   · rfl
                   simp only [Act.put, List.setIfInBounds_toArray, List.set_cons_zero, List.set_cons_succ])
              first
                | (refine h_run (i := 2) (v := ?_) hHeld rfl (by kernel_rfl) (by kernel_rfl) (by kernel_rfl) ?_ ?_ ?_
                   rotate_left
                   · rfl
                   · (intro x hSx; (try dsimp only at hSx); go_simp <;> with_reducible rfl)
                   simp only [Act.put, List.setIfInBounds_toArray, List.set_cons_zero, List.set_cons_succ])
                | (refine h_skip (i := 2) hHeld rfl (by kernel_rfl) (by kernel_rfl) (by kernel_rfl) ?_ ?_
                   · rfl
                   simp only [Act.put, List.setIfInBounds_toArray, List.set_cons_zero, List.set_cons_succ])
              first
                | (refine h_run (i := 3) (v := ?_) hHeld rfl (by kernel_rfl) (by kernel_rfl) (by kernel_rfl) ?_ ?_ ?_
                   rotate_left
                   · rfl
                   · (intro x hSx; (try dsimp only at hSx); go_simp <;> with_reducible rfl)
                   simp only [Act.put, List.setIfInBounds_toArray, List.set_cons_zero, List.set_cons_succ])
                | (refine h_skip (i := 3) hHeld rfl (by kernel_rfl) (by kernel_rfl) (by kernel_rfl) ?_ ?_
                   · rfl
                   simp only [Act.put, List.setIfInBounds_toArray, List.set_cons_zero, List.set_cons_succ])
              first
                | (refine h_run (i := 4) (v := ?_) hHeld rfl (by kernel_rfl) (by kernel_rfl) (by kernel_rfl) ?_ ?_ ?_
                   rotate_left
                   · rfl
                   · (intro x hSx; (try dsimp only at hSx); go_simp <;> with_reducible rfl)
                   simp only [Act.put, List.setIfInBounds_toArray, List.set_cons_zero, List.set_cons_succ])
                | (refine h_skip (i := 4) hHeld rfl (by kernel_rfl) (by kernel_rfl) (by kernel_rfl) ?_ ?_
                   · rfl
                   simp only [Act.put, List.setIfInBounds_toArray, List.set_cons_zero, List.set_cons_succ])
              first
                | (refine h_run (i := 6) (v := ?_) hHeld rfl (by kernel_rfl) (by kernel_rfl) (by kernel_rfl) ?_ ?_ ?_
                   rotate_left
                   · rfl
                   · (intro x hSx; (try dsimp only at hSx); go_simp <;> with_reducible rfl)
                   simp only [Act.put, List.setIfInBounds_toArray, List.set_cons_zero, List.set_cons_succ])
                | (refine h_skip (i := 6) hHeld rfl (by kernel_rfl) (by kernel_rfl) (by kernel_rfl) ?_ ?_
                   · rfl
                   simp only [Act.put, List.setIfInBounds_toArray, List.set_cons_zero, List.set_cons_succ])
              clear hHeld
              have hal : Hid (Below W3.drew.heap.size W3.drew (W3.drew.alloc (.cells (dgmA 1 x2 x3) 34))) := hide ((Below.refl _ _).alloc (Nat.le_refl _) _)
              have hMa := Lib.hid (hMd.out.below hal.out)
              obtain ⟨v6, hM7w, hr6, hq6, hg6, hf6⟩ := q_push (hMa.out.qu o ho) hMa.out.lo.size hlq W3.drew.heap.size (x2, x3) (last_block0 W3.drew (.cells (dgmA 1 x2 x3) 34) _ rfl) 30
              obtain ⟨s6, c6, hv6⟩ := hq6.form
              rw [List.length_append] at hv6
              replace hv6 : v6 = (.slice s6 ((QB o).length + 1) c6) := hv6
              subst hv6
              have hM7 := Lib.hid (hMa.out.turn ho hg6 hq6 hf6)
              have hr6h := Lib.hid hr6
              have cO := (hM3.out.way ho).1
              have cO' : (W3.alloc (.cells (dgmA 1 x2 x3) 34)).cell? ⟨t8, o, none⟩ = some (vB o) := (hMa.out.way ho).1
              obtain ⟨b86, cO6, fO6⟩ := hMa.out.cell6 ho hg6
              have hX6h : Hid ((fun y : World => blk y tx = some (.cells (dgmA 1 x2 x3) 34 (0, 0))) hM7w) := hide (blk_of ((hg6.block tx (by show _ < (W3.drew.heap.push _).size; rw [Array.size_push]; have := (Array.getElem?_eq_some_iff.1 hXd.out).1; omega) (fun e => hXne.out o ho e.symm)).trans ((hal.out.block _ (Array.getElem?_eq_some_iff.1 hXd.out).1).trans hXd.out)))
              have hX7h : Hid ((fun y : World => blk y tx = some (.cells (dgmA 1 x2 x3) 34 (0, 0))) (hM7w.setCell ⟨t8, o, none⟩ (.slice s6 ((QB o).length + 1) c6))) := hide (blk_of ((heap_setCell_other hM7w ⟨t8, o, none⟩ tx _ (ty_ne2 hXd.out hMd.out.b8 (by decide))).trans (blk_heap hX6h.out)))
              have hX8h := Lib.hid (hXs.out _ hal.out)
              have hX9h := Lib.hid (hXs.out _ (Below.refl _ _))
              clear hr6 hq6 hg6 hf6 b86
              refine h_push (i := 5) (j := 7) (k := 8) (w6 := hM7w) (vB o) (.slice s6 ((QB o).length + 1) c6) (.slice (some ⟨W3.drew.heap.size, 0, none⟩) 1 1) (.cells (dgmA 1 x2 x3) 34) rfl rfl rfl (by kernel_rfl) (by kernel_rfl) (by kernel_rfl) (by kernel_rfl) (fun _ => rfl) (fun _ => rfl) (fun _ => rfl) ?_ ?_ ?_ ?_ ?_ rfl rfl hX9h.out hX8h.out hX6h.out ?_
              · go_simp <;> with_reducible rfl
              · go_simp <;> with_reducible rfl
              · unfold dgmA
                go_simp <;> rfl
              · unfold dgmA
                go_simp <;> rfl
              · exact exec_appendP (.tmp 176) (.tmp 178) _ _ rfl rfl rfl hr6h.out
              simp only [Act.put, List.setIfInBounds_toArray, List.set_cons_zero, List.set_cons_succ]
              clear cO cO'
              have hHeld := hX6h.out
              first
                | (refine h_run (i := 9) (v := ?_) hHeld rfl (by kernel_rfl) (by kernel_rfl) (by kernel_rfl) ?_ ?_ ?_
                   rotate_left
                   · rfl
                   · (intro x hSx; (try dsimp only at hSx); go_simp <;> with_reducible rfl)
                   simp only [Act.put, List.setIfInBounds_toArray, List.set_cons_zero, List.set_cons_succ])
                | (refine h_skip (i := 9) hHeld rfl (by kernel_rfl) (by kernel_rfl) (by kernel_rfl) ?_ ?_
                   · rfl
                   simp only [Act.put, List.setIfInBounds_toArray, List.set_cons_zero, List.set_cons_succ])
              clear hHeld
              refine h_write (i := 10) (w' := hM7w.setCell ⟨t8, o, none⟩ (.slice s6 ((QB o).length + 1) c6)) (fun y : World => blk y tx = some (.cells (dgmA 1 x2 x3) 34 (0, 0))) (fun _ h => h) rfl (by kernel_rfl) rfl ?_ hX7h.out ?_
              · go_simp <;> with_reducible rfl
              refine h_done (by kernel_rfl) ?_
              clear cO6 fO6 hMd hXd hXs hal hMa hr6h hX6h hX7h hX8h hX9h
              have hlq2 := len_push QB ho (x2, x3)
              go_wp2_with fail
              go_meet
              exact ⟨_, _, hM7, by omega, hide (hP2.out)⟩
          case rest =>
            obtain ⟨vC, QC, hMC, hlC, hPC⟩ := hcut
            clear hM3 hX3 hP1 hP2 hGB htk1 hXne
            go_upto_region 41 with (fail)
            go_loopw [24] (fun v24 wr => ∃ (lp : List Msg) (e : Nat → ShS) (v : Nat → Value) (Q : Nat → List Msg), v24 = .int .i64 (lp.length : Nat) ∧ Hid (MtAt w wr t7 t8 p e v Q) ∧ Hid (GdOk e (61 + 402 * (n : Int) + 201 * (who : Int) + 1 + (lp.length : Int))) ∧ Hid (Part who o eB QB e Q lp) ∧ (Q 0).length + (Q 1).length ≤ 87 + who + 1) (fun v24 _ => 200 - (intOf v24).toNat)
            case atStart => exact ⟨[], _, vC, QC, rfl, hMC, hide (hGn.out.mono (by simp)), hPC, hlC⟩
            case round =>
              clear hMC hPC hGn
              obtain ⟨lp, e, v, Q, rfl, hM, hG, hP, hl⟩ := hrel
              have hl1 : lp.length ≤ 90 := by have := hP.out.len; rcases two_cases hw with rfl | rfl <;> omega
              obtain ⟨k, hk⟩ : ∃ k, lp.length = k := ⟨_, rfl⟩
              have hkh := Lib.hid hk
              rw [hk] at hG hl1 ⊢
              clear hk
              have k1 : (k : Int) < 200 := by omega
              rcases hQw : Q who with _ | ⟨⟨ma, mb⟩, l⟩
              · obtain ⟨sw, cw, hvw⟩ := (hM.out.qu who hw).form
                have cW := (hM.out.way hw).1
                rw [hvw, hQw] at cW
                replace cW : wr.cell? ⟨t8, who, none⟩ = some (.slice sw 0 cw) := cW
                have hSt : Hid (Stage eA QA (who + 1) e Q) := hide ⟨eB, QB, hSB.out, (show o = 1 - who by omega) ▸ hP.out.end hQw⟩
                clear hvw hP hQw
                go_wp2_with fail
                refine ⟨?_, ?_⟩
                rotate_left
                · simp [intOf]; omega
                first
                  | exact ⟨who + 1, e, v, Q, by omega, by go_num, hM, hide (hG.out.mono (by omega)), hSt, by omega⟩
                  | (repeat (apply Exists.intro)
                     exact ⟨⟨who + 1, e, v, Q, by omega, by go_num, hM, hide (hG.out.mono (by omega)), hSt, by omega⟩, rfl⟩)
                  | (iterate 100 (apply Exists.intro)
                     exact ⟨⟨who + 1, e, v, Q, by omega, by go_num, hM, hide (hG.out.mono (by omega)), hSt, by omega⟩, rfl⟩)
              · have hQwh := Lib.hid hQw
                have hPn1 : Hid (∀ Q2 : Nat → List Msg, Q2 who = l → Q2 o = Q o ++ (pTake (e who) (ma, mb)).2 → Part who o eB QB (upd e who (pTake (e who) (ma, mb)).1) Q2 (lp ++ [(ma, mb)])) := hide (fun Q2 a b => hP.out.next hon hQwh.out a b)
                have hln : Hid (Value.int .i64 ((k : Int) + 1) = .int .i64 (((lp ++ [(ma, mb)]).length : Nat) : Int)) := hide (by simp [hkh.out])
                have hlc2 : Hid (((lp ++ [(ma, mb)]).length : Int) = (k : Int) + 1) := hide (by simp [hkh.out])
                have hlv : ∃ sl cl, v who = .slice sl (l.length + 1) cl := by
                  obtain ⟨sw, cw, hvw⟩ := (hM.out.qu who hw).form
                  rw [hQw] at hvw
                  exact ⟨_, _, hvw⟩
                have hq := hM.out.qu who hw
                rw [hQw] at hq
                obtain ⟨qb, qo, qc, hvq, hlc, hqlt, hqlo, ⟨C, hC, hCx⟩, hpop1, hpop0⟩ := hq.head
                have cQ : wr.cell? ⟨t8, who, none⟩ = some (.slice (some ⟨qb, qo, none⟩) (l.length + 1) (qc + 1)) := by rw [(hM.out.way hw).1, hvq]
                have hvqh := Lib.hid hvq
                have hQwh := Lib.hid hQw
                have hp1h := Lib.hid hpop1
                have hp0h := Lib.hid hpop0
                have hm : (wLoad 34 (.pointer (some ⟨qb, qo, none⟩))).run Try.prog wr = .ok (.agg (dgmA 1 ma mb)) wr := by
                  have h2 := run_loadAt_mid (P := Try.prog) wr qb qo 34 (dgmA 1 ma mb).toList _ (fun j v hv => by rw [cell_of_block hC]; exact hCx j v (by rw [← hv, Array.getElem?_toList])) Try.underlying34 rfl (by rw [Array.length_toList, dg_size]; exact dgm_info11)
                  rw [ld_dg0] at h2
                  simpa using h2
                have l1 : (0 : Int) < (l.length : Int) + 1 := by omega
                clear hlv hvq hQw hq hC hCx hpop1 hpop0
                go_upto_region 44 with (fail)
                obtain ⟨q1, _, q3, q4⟩ := box_one wr (dgmA 0 0 0) (dgmA 1 ma mb) 34
                have hM3 := Lib.hid (hM.out.below q4)
                have hX3 := Lib.hid (blk_heap q1)
                obtain ⟨tx, htx⟩ : ∃ t, wr.heap.size = t := ⟨_, rfl⟩
                have hXne : Hid (∀ o, o < 2 → (v o).ownBlock ≠ some tx) := hide (fun o ho e => by have := hM.out.blt ho _ e; omega)
                have hqP : Hid (0 < qc → QAt (World.setRow (World.alloc wr (.cells (dgmA 0 0 0) 34)) wr.heap.size (dgmA 1 ma mb)) w.heap.size (.slice (some ⟨qb, qo + 11, none⟩) l.length qc) l) := hide (fun h => (hp1h.out h).kept (fun b hb => by injection hb with hb; subst hb; exact q4.block _ hqlt))
                have hqP0 : Hid (qc = 0 → l = [] ∧ QAt (World.setRow (World.alloc wr (.cells (dgmA 0 0 0) 34)) wr.heap.size (dgmA 1 ma mb)) w.heap.size (.slice (some ⟨qb, qo, none⟩) 0 0) []) := hide (fun h => ⟨(hp0h.out h).1, (hp0h.out h).2.kept (fun b hb => by injection hb with hb; subst hb; exact q4.block _ hqlt)⟩)
                generalize World.setRow (World.alloc wr _) _ _ = W3 at *
                rw [htx] at hX3 ⊢
                clear q1 q3 q4 htx hM hm cQ hp1h hp0h
                have hlp9 := len_pop Q hw hQwh.out
                go_cut [] from 181 to 222 (fun wx => ∃ (v' : Nat → Value), Hid (MtAt w wx t7 t8 p e v' (upd Q who l)) ∧ Hid (wx.heap[tx]? = some (.cells (dgmA 1 ma mb) 34 (0, 0))) ∧ Hid (∀ o, o < 2 → (v' o).ownBlock ≠ some tx))
                case first =>
                  have cQ : W3.cell? ⟨t8, who, none⟩ = some (.slice (some ⟨qb, qo, none⟩) (l.length + 1) (qc + 1)) := by rw [(hM3.out.way hw).1, hvqh.out]
                  have fQ := (hM3.out.way hw).2
                  have hvb : (v who).ownBlock = some qb := by rw [hvqh.out]; rfl
                  have htx8 : tx ≠ t8 := ty_ne2 hX3.out hM3.out.b8 (by decide)
                  have hlp := len_pop Q hw hQwh.out
                  rcases Nat.eq_zero_or_pos qc with hq0 | hq0
                  · obtain ⟨hl0, hqa⟩ := hqP0.out hq0
                    have hT := Lib.hid (hM3.out.turn hw (only_refl W3 _) hqa (fun b hb => .inl (by rw [hvb]; exact hb)))
                    have hX5 : Hid ((W3.setCell ⟨t8, who, none⟩ (.slice (some ⟨qb, qo, none⟩) 0 0)).heap[tx]? = some (.cells (dgmA 1 ma mb) 34 (0, 0))) := hide ((heap_setCell_other W3 ⟨t8, who, none⟩ tx _ htx8).trans hX3.out)
                    have hXn5 : Hid (∀ o, o < 2 → (upd v who (.slice (some ⟨qb, qo, none⟩) 0 0) o).ownBlock ≠ some tx) := hide (upd_block (fun o ho => hXne.out o ho) (by have := hXne.out who hw; rw [hvb] at this; exact this))
                    subst hl0 hq0
                    have cQ2 : W3.cell? ⟨t8, who, none⟩ = some (.slice (some ⟨qb, qo, none⟩) 1 1) := cQ
                    clear cQ hqa hqP hqP0
                    go_wp2_with fail
                    go_meet
                    exact ⟨_, hT, hX5, hXn5⟩
                  · have hqa := hqP.out hq0
                    have hT := Lib.hid (hM3.out.turn hw (only_refl W3 _) hqa (fun b hb => .inl (by rw [hvb]; exact hb)))
                    have hX5 : Hid ((W3.setCell ⟨t8, who, none⟩ (.slice (some ⟨qb, qo + 11, none⟩) l.length qc)).heap[tx]? = some (.cells (dgmA 1 ma mb) 34 (0, 0))) := hide ((heap_setCell_other W3 ⟨t8, who, none⟩ tx _ htx8).trans hX3.out)
                    have hXn5 : Hid (∀ o, o < 2 → (upd v who (.slice (some ⟨qb, qo + 11, none⟩) l.length qc) o).ownBlock ≠ some tx) := hide (upd_block (fun o ho => hXne.out o ho) (by have := hXne.out who hw; rw [hvb] at this; exact this))
                    have hqn : ¬ qc + 1 = 1 := by omega
                    have hqn2 : qc ≠ 0 := by omega
                    clear hqa hqP hqP0
                    go_wp2_with fail
                    go_meet
                    exact ⟨_, hT, hX5, hXn5⟩
                case rest =>
                  obtain ⟨v', hM4, hX4, hXn4⟩ := hcut
                  have hQ1 : Hid (upd Q who l who = l) := hide (upd_same _ _ _)
                  have hQ2 : Hid (upd Q who l o = Q o) := hide (upd_ne _ _ hon)
                  generalize upd Q who l = Q' at *
                  have c7 := hM4.out.ptr hw
                  obtain ⟨hsb, hal⟩ := (by have := hG.out; unfold GdOk at this; exact this who hw : ShB (e who) (61 + 402 * (n : Int) + 201 * (who : Int) + 1 + (k : Int)) ∧ shAlive (e who))
                  have hst1 := Lib.hid (s_take_m (p who) (e who) ma mb (hsb.ok (by omega)))
                  have hGn := Lib.hid (hG.out.take hw 1 ma mb)
                  have htk1 := Lib.hid (take_kind (e who) ma mb)
                  unfold pTake at hPn1
                  simp only at hPn1
                  rcases hTe : shTake (e who) 1 ma mb with ⟨st2, ⟨x1, x2, x3⟩, fl, er⟩
                  rw [hTe] at hst1 hGn htk1 hPn1
                  unfold dV at hst1
                  simp only at hst1 hGn htk1 hPn1
                  clear hTe hsb  hal
                  go_upto_region 45 with (fail)
                  go_cut [26, 27] from 181 to 222 (fun v26 v27 wx => ∃ tz : Nat, v26 = .pointer (some ⟨tz, 0, none⟩) ∧ v27 = .bool fl ∧ Hid (MtAt w wx t7 t8 p (upd e who st2) v' Q') ∧ Hid (wx.heap[tz]? = some (.cells (dgmA x1 x2 x3) 34 (0, 0))) ∧ Hid (∀ o, o < 2 → (v' o).ownBlock ≠ some tz))
                  case first =>
                    have hS : Hid (∀ y e2, MtAt w y t7 t8 p e2 v' Q' → y.heap[tx]? = some (.cells (dgmA 1 ma mb) 34 (0, 0)) → (fun y : World => y.cell? ⟨t7, who, none⟩ = some (.pointer (some ⟨p who, 0, none⟩)) ∧ blk y tx = some (.cells (dgmA 1 ma mb) 34 (0, 0))) y) := hide (fun y e2 h1 h2 => ⟨h1.ptr hw, blk_of h2⟩)
                    have hMd := Lib.hid (hM4.out.below (below_drewN (Below.refl _ _) 1))
                    have hXd : Hid (wc.drew.heap[tx]? = some (.cells (dgmA 1 ma mb) 34 (0, 0))) := hide hX4.out
                    have hxlt := (Array.getElem?_eq_some_iff.1 hXd.out).1
                    have hHeld := hS.out _ _ hMd.out hXd.out
                    refine h_begin 13 (fun y : World => y.cell? ⟨t7, who, none⟩ = some (.pointer (some ⟨p who, 0, none⟩)) ∧ blk y tx = some (.cells (dgmA 1 ma mb) 34 (0, 0))) rfl (by kernel_rfl) hHeld ?_
                    first
                      | (refine h_run (i := 0) (v := ?_) hHeld rfl (by kernel_rfl) (by kernel_rfl) (by kernel_rfl) ?_ ?_ ?_
                         rotate_left
                         · rfl
                         · (intro x hSx; (try dsimp only at hSx); go_simp <;> with_reducible rfl)
                         simp only [Act.put, List.setIfInBounds_toArray, List.set_cons_zero, List.set_cons_succ])
                      | (refine h_skip (i := 0) hHeld rfl (by kernel_rfl) (by kernel_rfl) (by kernel_rfl) ?_ ?_
                         · rfl
                         simp only [Act.put, List.setIfInBounds_toArray, List.set_cons_zero, List.set_cons_succ])
                    first
                      | (refine h_run (i := 1) (v := ?_) hHeld rfl (by kernel_rfl) (by kernel_rfl) (by kernel_rfl) ?_ ?_ ?_
                         rotate_left
                         · rfl
                         · (intro x hSx; (try dsimp only at hSx); go_simp <;> with_reducible rfl)
                         simp only [Act.put, List.setIfInBounds_toArray, List.set_cons_zero, List.set_cons_succ])
                      | (refine h_skip (i := 1) hHeld rfl (by kernel_rfl) (by kernel_rfl) (by kernel_rfl) ?_ ?_
                         · rfl
                         simp only [Act.put, List.setIfInBounds_toArray, List.set_cons_zero, List.set_cons_succ])
                    first
                      | (refine h_run (i := 2) (v := ?_) hHeld rfl (by kernel_rfl) (by kernel_rfl) (by kernel_rfl) ?_ ?_ ?_
                         rotate_left
                         · rfl
                         · (intro x hSx; (try dsimp only at hSx); go_simp <;> with_reducible rfl)
                         simp only [Act.put, List.setIfInBounds_toArray, List.set_cons_zero, List.set_cons_succ])
                      | (refine h_skip (i := 2) hHeld rfl (by kernel_rfl) (by kernel_rfl) (by kernel_rfl) ?_ ?_
                         · rfl
                         simp only [Act.put, List.setIfInBounds_toArray, List.set_cons_zero, List.set_cons_succ])
                    first
                      | (refine h_run (i := 3) (v := ?_) hHeld rfl (by kernel_rfl) (by kernel_rfl) (by kernel_rfl) ?_ ?_ ?_
                         rotate_left
                         · rfl
                         · (intro x hSx; (try dsimp only at hSx); go_simp <;> with_reducible rfl)
                         simp only [Act.put, List.setIfInBounds_toArray, List.set_cons_zero, List.set_cons_succ])
                      | (refine h_skip (i := 3) hHeld rfl (by kernel_rfl) (by kernel_rfl) (by kernel_rfl) ?_ ?_
                         · rfl
                         simp only [Act.put, List.setIfInBounds_toArray, List.set_cons_zero, List.set_cons_succ])
                    clear hHeld
                    have hal : Hid (Below wc.drew.heap.size wc.drew (wc.drew.alloc (.cells (dgmA 0 0 0) 34))) := hide ((Below.refl _ _).alloc (Nat.le_refl _) _)
                    have hMa := Lib.hid (hMd.out.below hal.out)
                    have hXa := Lib.hid ((hal.out.block _ hxlt).trans hXd.out)
                    have hZa := Lib.hid (last_block0 wc.drew (.cells (dgmA 0 0 0) 34) _ rfl)
                    have hxp : tx ≠ p who := ty_ne2 hXd.out (hMd.out.sh who hw) (by decide)
                    refine h_pairA (i := 9) (j := 4) (v := .pointer (some ⟨wc.drew.heap.size, 0, none⟩)) (w1 := wc.drew.alloc (.cells (dgmA 0 0 0) 34)) (hst1.out wc.drew (hMd.out.sh who hw)) rfl rfl (by kernel_rfl) rfl rfl ?_ ?_ (hS.out _ _ hMa.out hXa.out) ?_ ?_
                    · go_simp <;> with_reducible rfl
                    · go_simp <;> with_reducible rfl
                    · simp only [Act.put, List.setIfInBounds_toArray, List.set_cons_zero, List.set_cons_succ]
                      refine h_call (i := 4) (fun y : World => y.cell? ⟨t7, who, none⟩ = some (.pointer (some ⟨p who, 0, none⟩)) ∧ blk y tx = some (.cells (dgmA 1 ma mb) 34 (0, 0))) (fun _ h => h) (hst1.out (wc.drew.alloc (.cells (dgmA 0 0 0) 34)) (hMa.out.sh who hw)) rfl (by kernel_rfl) rfl ?_ ?_
                      · go_simp <;> with_reducible rfl
                      rintro _ y ⟨rfl, hs2, hg2⟩
                      have hMy := Lib.hid (hMa.out.call hw hs2 hg2)
                      have hXy := Lib.hid ((hg2.block tx (Array.getElem?_eq_some_iff.1 hXa.out).1 (fun e => hxp (by injection e))).trans hXa.out)
                      have hZy := Lib.hid ((hg2.block wc.drew.heap.size (Array.getElem?_eq_some_iff.1 hZa.out).1 (fun e => ty_ne2 hZa.out (hMa.out.sh who hw) (by decide) (by injection e))).trans hZa.out)
                      have hXn9 : Hid (∀ o, o < 2 → (v' o).ownBlock ≠ some wc.drew.heap.size) := hide (fun o ho e => absurd (hMd.out.blt ho _ e) (Nat.lt_irrefl _))
                      have hlo9 : w.heap.size ≤ wc.drew.heap.size := hMd.out.lo.size
                      have htx9 : tx ≠ wc.drew.heap.size := by omega
                      have hHeld := hS.out _ _ hMy.out hXy.out
                      refine ⟨_, rfl, hHeld, ?_⟩
                      clear hs2 hg2
                      first
                        | (refine h_run (i := 5) (v := ?_) hHeld rfl (by kernel_rfl) (by kernel_rfl) (by kernel_rfl) ?_ ?_ ?_
                           rotate_left
                           · rfl
                           · (intro x hSx; (try dsimp only at hSx); go_simp <;> with_reducible rfl)
                           simp only [Act.put, List.setIfInBounds_toArray, List.set_cons_zero, List.set_cons_succ])
                        | (refine h_skip (i := 5) hHeld rfl (by kernel_rfl) (by kernel_rfl) (by kernel_rfl) ?_ ?_
                           · rfl
                           simp only [Act.put, List.setIfInBounds_toArray, List.set_cons_zero, List.set_cons_succ])
                      first
                        | (refine h_run (i := 6) (v := ?_) hHeld rfl (by kernel_rfl) (by kernel_rfl) (by kernel_rfl) ?_ ?_ ?_
                           rotate_left
                           · rfl
                           · (intro x hSx; (try dsimp only at hSx); go_simp <;> with_reducible rfl)
                           simp only [Act.put, List.setIfInBounds_toArray, List.set_cons_zero, List.set_cons_succ])
                        | (refine h_skip (i := 6) hHeld rfl (by kernel_rfl) (by kernel_rfl) (by kernel_rfl) ?_ ?_
                           · rfl
                           simp only [Act.put, List.setIfInBounds_toArray, List.set_cons_zero, List.set_cons_succ])
                      first
                        | (refine h_run (i := 7) (v := ?_) hHeld rfl (by kernel_rfl) (by kernel_rfl) (by kernel_rfl) ?_ ?_ ?_
                           rotate_left
                           · rfl
                           · (intro x hSx; (try dsimp only at hSx); go_simp <;> with_reducible rfl)
                           simp only [Act.put, List.setIfInBounds_toArray, List.set_cons_zero, List.set_cons_succ])
                        | (refine h_skip (i := 7) hHeld rfl (by kernel_rfl) (by kernel_rfl) (by kernel_rfl) ?_ ?_
                           · rfl
                           simp only [Act.put, List.setIfInBounds_toArray, List.set_cons_zero, List.set_cons_succ])
                      first
                        | (refine h_run (i := 8) (v := ?_) hHeld rfl (by kernel_rfl) (by kernel_rfl) (by kernel_rfl) ?_ ?_ ?_
                           rotate_left
                           · rfl
                           · (intro x hSx; (try dsimp only at hSx); go_simp <;> with_reducible rfl)
                           simp only [Act.put, List.setIfInBounds_toArray, List.set_cons_zero, List.set_cons_succ])
                        | (refine h_skip (i := 8) hHeld rfl (by kernel_rfl) (by kernel_rfl) (by kernel_rfl) ?_ ?_
                           · rfl
                           simp only [Act.put, List.setIfInBounds_toArray, List.set_cons_zero, List.set_cons_succ])
                      clear hHeld
                      generalize wc.drew.heap.size = tz at *
                      have hT9 := Lib.hid (hMy.out.row (C := dgmA x1 x2 x3) hZy.out (fun o ho => hXn9.out o ho) hlo9)
                      have hX9 := Lib.hid (setRow_heap y tz _ (dgmA x1 x2 x3) 34 (0, 0) hZy.out)
                      have bz := blk_of hZy.out
                      refine h_write (i := 10) (w' := y.setRow tz (dgmA x1 x2 x3)) (fun y : World => y.cell? ⟨t7, who, none⟩ = some (.pointer (some ⟨p who, 0, none⟩)) ∧ blk y tx = some (.cells (dgmA 1 ma mb) 34 (0, 0))) (fun _ h => h) rfl (by kernel_rfl) rfl ?_ (hS.out _ _ hT9.out ((setRow_other _ _ _ _ htx9).trans hXy.out)) ?_
                      · go_simp <;> with_reducible rfl
                      have hHeld := hS.out _ _ hT9.out ((setRow_other _ _ _ _ htx9).trans hXy.out)
                      first
                        | (refine h_run (i := 11) (v := ?_) hHeld rfl (by kernel_rfl) (by kernel_rfl) (by kernel_rfl) ?_ ?_ ?_
                           rotate_left
                           · rfl
                           · (intro x hSx; (try dsimp only at hSx); go_simp <;> with_reducible rfl)
                           simp only [Act.put, List.setIfInBounds_toArray, List.set_cons_zero, List.set_cons_succ])
                        | (refine h_skip (i := 11) hHeld rfl (by kernel_rfl) (by kernel_rfl) (by kernel_rfl) ?_ ?_
                           · rfl
                           simp only [Act.put, List.setIfInBounds_toArray, List.set_cons_zero, List.set_cons_succ])
                      first
                        | (refine h_run (i := 12) (v := ?_) hHeld rfl (by kernel_rfl) (by kernel_rfl) (by kernel_rfl) ?_ ?_ ?_
                           rotate_left
                           · rfl
                           · (intro x hSx; (try dsimp only at hSx); go_simp <;> with_reducible rfl)
                           simp only [Act.put, List.setIfInBounds_toArray, List.set_cons_zero, List.set_cons_succ])
                        | (refine h_skip (i := 12) hHeld rfl (by kernel_rfl) (by kernel_rfl) (by kernel_rfl) ?_ ?_
                           · rfl
                           simp only [Act.put, List.setIfInBounds_toArray, List.set_cons_zero, List.set_cons_succ])
                      clear hHeld bz
                      refine h_done (by kernel_rfl) ?_
                      go_wp2_with fail
                      go_meet
                      exact ⟨tz, rfl, rfl, hT9, hX9, hXn9⟩
                    · rintro _ y ⟨rfl, hs2, hg2⟩
                      have hMy0 := Lib.hid (hMd.out.call hw hs2 hg2)
                      have hXy0 := Lib.hid ((hg2.block tx hxlt (fun e => hxp (by injection e))).trans hXd.out)
                      have hHeld := hS.out _ _ hMy0.out hXy0.out
                      refine ⟨_, rfl, hHeld, ?_⟩
                      clear hs2 hg2
                      simp only [Act.put, List.setIfInBounds_toArray, List.set_cons_zero, List.set_cons_succ]
                      first
                        | (refine h_run (i := 5) (v := ?_) hHeld rfl (by kernel_rfl) (by kernel_rfl) (by kernel_rfl) ?_ ?_ ?_
                           rotate_left
                           · rfl
                           · (intro x hSx; (try dsimp only at hSx); go_simp <;> with_reducible rfl)
                           simp only [Act.put, List.setIfInBounds_toArray, List.set_cons_zero, List.set_cons_succ])
                        | (refine h_skip (i := 5) hHeld rfl (by kernel_rfl) (by kernel_rfl) (by kernel_rfl) ?_ ?_
                           · rfl
                           simp only [Act.put, List.setIfInBounds_toArray, List.set_cons_zero, List.set_cons_succ])
                      first
                        | (refine h_run (i := 6) (v := ?_) hHeld rfl (by kernel_rfl) (by kernel_rfl) (by kernel_rfl) ?_ ?_ ?_
                           rotate_left
                           · rfl
                           · (intro x hSx; (try dsimp only at hSx); go_simp <;> with_reducible rfl)
                           simp only [Act.put, List.setIfInBounds_toArray, List.set_cons_zero, List.set_cons_succ])
                        | (refine h_skip (i := 6) hHeld rfl (by kernel_rfl) (by kernel_rfl) (by kernel_rfl) ?_ ?_
                           · rfl
                           simp only [Act.put, List.setIfInBounds_toArray, List.set_cons_zero, List.set_cons_succ])
                      first
                        | (refine h_run (i := 7) (v := ?_) hHeld rfl (by kernel_rfl) (by kernel_rfl) (by kernel_rfl) ?_ ?_ ?_
                           rotate_left
                           · rfl
                           · (intro x hSx; (try dsimp only at hSx); go_simp <;> with_reducible rfl)
                           simp only [Act.put, List.setIfInBounds_toArray, List.set_cons_zero, List.set_cons_succ])
                        | (refine h_skip (i := 7) hHeld rfl (by kernel_rfl) (by kernel_rfl) (by kernel_rfl) ?_ ?_
                           · rfl
                           simp only [Act.put, List.setIfInBounds_toArray, List.set_cons_zero, List.set_cons_succ])
                      first
                        | (refine h_run (i := 8) (v := ?_) hHeld rfl (by kernel_rfl) (by kernel_rfl) (by kernel_rfl) ?_ ?_ ?_
                           rotate_left
                           · rfl
                           · (intro x hSx; (try dsimp only at hSx); go_simp <;> with_reducible rfl)
                           simp only [Act.put, List.setIfInBounds_toArray, List.set_cons_zero, List.set_cons_succ])
                        | (refine h_skip (i := 8) hHeld rfl (by kernel_rfl) (by kernel_rfl) (by kernel_rfl) ?_ ?_
                           · rfl
                           simp only [Act.put, List.setIfInBounds_toArray, List.set_cons_zero, List.set_cons_succ])
                      clear hHeld
                      have hal2 : Hid (Below y.heap.size y (y.alloc (.cells (dgmA 0 0 0) 34))) := hide ((Below.refl _ _).alloc (Nat.le_refl _) _)
                      have hMy := Lib.hid (hMy0.out.below hal2.out)
                      have hXy := Lib.hid ((hal2.out.block _ (Array.getElem?_eq_some_iff.1 hXy0.out).1).trans hXy0.out)
                      have hZy := Lib.hid (last_block0 y (.cells (dgmA 0 0 0) 34) _ rfl)
                      have hXn9 : Hid (∀ o, o < 2 → (v' o).ownBlock ≠ some y.heap.size) := hide (fun o ho e => by have := hMy0.out.blt ho _ e; omega)
                      have hlo9 : w.heap.size ≤ y.heap.size := hMy0.out.lo.size
                      have htx9 : tx ≠ y.heap.size := by have := (Array.getElem?_eq_some_iff.1 hXy0.out).1; omega
                      refine h_value (i := 9) (v := .pointer (some ⟨y.heap.size, 0, none⟩)) (w' := y.alloc (.cells (dgmA 0 0 0) 34)) (fun y : World => y.cell? ⟨t7, who, none⟩ = some (.pointer (some ⟨p who, 0, none⟩)) ∧ blk y tx = some (.cells (dgmA 1 ma mb) 34 (0, 0))) (fun _ h => h) rfl (by kernel_rfl) rfl ?_ (hS.out _ _ hMy.out hXy.out) ?_
                      · go_simp <;> with_reducible rfl
                      simp only [Act.put, List.setIfInBounds_toArray, List.set_cons_zero, List.set_cons_succ]
                      clear hal2
                      generalize y.heap.size = tz at *
                      generalize World.alloc y _ = y at *
                      have hT9 := Lib.hid (hMy.out.row (C := dgmA x1 x2 x3) hZy.out (fun o ho => hXn9.out o ho) hlo9)
                      have hX9 := Lib.hid (setRow_heap y tz _ (dgmA x1 x2 x3) 34 (0, 0) hZy.out)
                      have bz := blk_of hZy.out
                      refine h_write (i := 10) (w' := y.setRow tz (dgmA x1 x2 x3)) (fun y : World => y.cell? ⟨t7, who, none⟩ = some (.pointer (some ⟨p who, 0, none⟩)) ∧ blk y tx = some (.cells (dgmA 1 ma mb) 34 (0, 0))) (fun _ h => h) rfl (by kernel_rfl) rfl ?_ (hS.out _ _ hT9.out ((setRow_other _ _ _ _ htx9).trans hXy.out)) ?_
                      · go_simp <;> with_reducible rfl
                      have hHeld := hS.out _ _ hT9.out ((setRow_other _ _ _ _ htx9).trans hXy.out)
                      first
                        | (refine h_run (i := 11) (v := ?_) hHeld rfl (by kernel_rfl) (by kernel_rfl) (by kernel_rfl) ?_ ?_ ?_
                           rotate_left
                           · rfl
                           · (intro x hSx; (try dsimp only at hSx); go_simp <;> with_reducible rfl)
                           simp only [Act.put, List.setIfInBounds_toArray, List.set_cons_zero, List.set_cons_succ])
                        | (refine h_skip (i := 11) hHeld rfl (by kernel_rfl) (by kernel_rfl) (by kernel_rfl) ?_ ?_
                           · rfl
                           simp only [Act.put, List.setIfInBounds_toArray, List.set_cons_zero, List.set_cons_succ])
                      first
                        | (refine h_run (i := 12) (v := ?_) hHeld rfl (by kernel_rfl) (by kernel_rfl) (by kernel_rfl) ?_ ?_ ?_
                           rotate_left
                           · rfl
                           · (intro x hSx; (try dsimp only at hSx); go_simp <;> with_reducible rfl)
                           simp only [Act.put, List.setIfInBounds_toArray, List.set_cons_zero, List.set_cons_succ])
                        | (refine h_skip (i := 12) hHeld rfl (by kernel_rfl) (by kernel_rfl) (by kernel_rfl) ?_ ?_
                           · rfl
                           simp only [Act.put, List.setIfInBounds_toArray, List.set_cons_zero, List.set_cons_succ])
                      clear hHeld bz
                      refine h_done (by kernel_rfl) ?_
                      go_wp2_with fail
                      go_meet
                      exact ⟨tz, rfl, rfl, hT9, hX9, hXn9⟩
                  case rest =>
                    obtain ⟨tz, rfl, rfl, hM9, hX9, hXne⟩ := hcut
                    have hGm : Hid (GdOk (upd e who st2) (61 + 402 * (n : Int) + 201 * (who : Int) + 1 + ((lp ++ [(ma, mb)]).length : Int))) := hide (hGn.out.mono (by have := hlc2.out; omega))
                    clear hM4 hX4 hXn4 hst1 hG hGn hX3 hqP hqP0 hM3 hvqh
                    cases fl with
                    | false =>
                      have hPm : Hid (Part who o eB QB (upd e who st2) Q' (lp ++ [(ma, mb)])) := hide (hPn1.out Q' hQ1.out (by rw [hQ2.out]; simp))
                      go_wp2_with fail
                      refine ⟨?_, ?_⟩
                      rotate_left
                      · simp [intOf]; omega
                      first
                        | exact ⟨lp ++ [(ma, mb)], upd e who st2, v', Q', hln.out, hM9, hGm, hPm, by omega⟩
                        | (repeat (apply Exists.intro)
                           exact ⟨⟨lp ++ [(ma, mb)], upd e who st2, v', Q', hln.out, hM9, hGm, hPm, by omega⟩, rfl⟩)
                        | (iterate 100 (apply Exists.intro)
                           exact ⟨⟨lp ++ [(ma, mb)], upd e who st2, v', Q', hln.out, hM9, hGm, hPm, by omega⟩, rfl⟩)
                    | true =>
                      have hx1 : x1 = 1 := htk1.out rfl
                      subst hx1
                      have hlq : (Q' o).length ≤ 100000 := by rcases two_cases ho with rfl | rfl <;> omega
                      have hPm : Hid (Part who o eB QB (upd e who st2) (upd Q' o (Q' o ++ [(x2, x3)])) (lp ++ [(ma, mb)])) := hide (hPn1.out _ (by rw [upd_ne _ _ (Ne.symm hon)]; exact hQ1.out) (by rw [upd_same, hQ2.out]; simp))
                      go_upto_region 47 with (fail)
                      have hMd := Lib.hid (hM9.out.below (below_drewN (Below.refl _ _) 1))
                      have hXd : Hid (wc.drew.heap[tz]? = some (.cells (dgmA 1 x2 x3) 34 (0, 0))) := hide hX9.out
                      have hXs : Hid (∀ y, Below wc.drew.heap.size wc.drew y → (fun y : World => blk y tz = some (.cells (dgmA 1 x2 x3) 34 (0, 0))) y) := hide (fun y hy => blk_of ((hy.block _ (Array.getElem?_eq_some_iff.1 hXd.out).1).trans hXd.out))
                      have hHeld := hXs.out _ (Below.refl _ _)
                      refine h_begin 11 (fun y : World => blk y tz = some (.cells (dgmA 1 x2 x3) 34 (0, 0))) rfl (by kernel_rfl) hHeld ?_
                      first
                        | (refine h_run (i := 0) (v := ?_) hHeld rfl (by kernel_rfl) (by kernel_rfl) (by kernel_rfl) ?_ ?_ ?_
                           rotate_left
                           · rfl
                           · (intro x hSx; (try dsimp only at hSx); go_simp <;> with_reducible rfl)
                           simp only [Act.put, List.setIfInBounds_toArray, List.set_cons_zero, List.set_cons_succ])
                        | (refine h_skip (i := 0) hHeld rfl (by kernel_rfl) (by kernel_rfl) (by kernel_rfl) ?_ ?_
                           · rfl
                           simp only [Act.put, List.setIfInBounds_toArray, List.set_cons_zero, List.set_cons_succ])
                      first
                        | (refine h_run (i := 1) (v := ?_) hHeld rfl (by kernel_rfl) (by kernel_rfl) (by kernel_rfl) ?_ ?_ ?_
                           rotate_left
                           · rfl
                           · (intro x hSx; (try dsimp only at hSx); go_simp <;> with_reducible rfl)
                           simp only [Act.put, List.setIfInBounds_toArray, List.set_cons_zero, List.set_cons_succ])
                        | (refine h_skip (i := 1) hHeld rfl (by kernel_rfl) (by kernel_rfl) (by kernel_rfl) ?_ ?_
                           · rfl
                           simp only [Act.put, List.setIfInBounds_toArray, List.set_cons_zero, List.set_cons_succ])
                      first
                        | (refine h_run (i := 2) (v := ?_) hHeld rfl (by kernel_rfl) (by kernel_rfl) (by kernel_rfl) ?_ ?_ ?_
                           rotate_left
                           · rfl
                           · (intro x hSx; (try dsimp only at hSx); go_simp <;> with_reducible rfl)
                           simp only [Act.put, List.setIfInBounds_toArray, List.set_cons_zero, List.set_cons_succ])
                        | (refine h_skip (i := 2) hHeld rfl (by kernel_rfl) (by kernel_rfl) (by kernel_rfl) ?_ ?_
                           · rfl
                           simp only [Act.put, List.setIfInBounds_toArray, List.set_cons_zero, List.set_cons_succ])
                      first
                        | (refine h_run (i := 3) (v := ?_) hHeld rfl (by kernel_rfl) (by kernel_rfl) (by kernel_rfl) ?_ ?_ ?_
                           rotate_left
                           · rfl
                           · (intro x hSx; (try dsimp only at hSx); go_simp <;> with_reducible rfl)
                           simp only [Act.put, List.setIfInBounds_toArray, List.set_cons_zero, List.set_cons_succ])
                        | (refine h_skip (i := 3) hHeld rfl (by kernel_rfl) (by kernel_rfl) (by kernel_rfl) ?_ ?_
                           · rfl
                           simp only [Act.put, List.setIfInBounds_toArray, List.set_cons_zero, List.set_cons_succ])
                      first
                        | (refine h_run (i := 4) (v := ?_) hHeld rfl (by kernel_rfl) (by kernel_rfl) (by kernel_rfl) ?_ ?_ ?_
                           rotate_left
                           · rfl
                           · (intro x hSx; (try dsimp only at hSx); go_simp <;> with_reducible rfl)
                           simp only [Act.put, List.setIfInBounds_toArray, List.set_cons_zero, List.set_cons_succ])
                        | (refine h_skip (i := 4) hHeld rfl (by kernel_rfl) (by kernel_rfl) (by kernel_rfl) ?_ ?_
                           · rfl
                           simp only [Act.put, List.setIfInBounds_toArray, List.set_cons_zero, List.set_cons_succ])
                      first
                        | (refine h_run (i := 6) (v := ?_) hHeld rfl (by kernel_rfl) (by kernel_rfl) (by kernel_rfl) ?_ ?_ ?_
                           rotate_left
                           · rfl
                           · (intro x hSx; (try dsimp only at hSx); go_simp <;> with_reducible rfl)
                           simp only [Act.put, List.setIfInBounds_toArray, List.set_cons_zero, List.set_cons_succ])
                        | (refine h_skip (i := 6) hHeld rfl (by kernel_rfl) (by kernel_rfl) (by kernel_rfl) ?_ ?_
                           · rfl
                           simp only [Act.put, List.setIfInBounds_toArray, List.set_cons_zero, List.set_cons_succ])
                      clear hHeld
                      have hal : Hid (Below wc.drew.heap.size wc.drew (wc.drew.alloc (.cells (dgmA 1 x2 x3) 34))) := hide ((Below.refl _ _).alloc (Nat.le_refl _) _)
                      have hMa := Lib.hid (hMd.out.below hal.out)
                      obtain ⟨v6, hM7w, hr6, hq6, hg6, hf6⟩ := q_push (hMa.out.qu o ho) hMa.out.lo.size hlq wc.drew.heap.size (x2, x3) (last_block0 wc.drew (.cells (dgmA 1 x2 x3) 34) _ rfl) 30
                      obtain ⟨s6, c6, hv6⟩ := hq6.form
                      rw [List.length_append] at hv6
                      replace hv6 : v6 = (.slice s6 ((Q' o).length + 1) c6) := hv6
                      subst hv6
                      have hM7 := Lib.hid (hMa.out.turn ho hg6 hq6 hf6)
                      have hr6h := Lib.hid hr6
                      have cO := (hM9.out.way ho).1
                      have cO' : (wc.alloc (.cells (dgmA 1 x2 x3) 34)).cell? ⟨t8, o, none⟩ = some (v' o) := (hMa.out.way ho).1
                      obtain ⟨b86, cO6, fO6⟩ := hMa.out.cell6 ho hg6
                      have hX6h : Hid ((fun y : World => blk y tz = some (.cells (dgmA 1 x2 x3) 34 (0, 0))) hM7w) := hide (blk_of ((hg6.block tz (by show _ < (wc.drew.heap.push _).size; rw [Array.size_push]; have := (Array.getElem?_eq_some_iff.1 hXd.out).1; omega) (fun e => hXne.out o ho e.symm)).trans ((hal.out.block _ (Array.getElem?_eq_some_iff.1 hXd.out).1).trans hXd.out)))
                      have hX7h : Hid ((fun y : World => blk y tz = some (.cells (dgmA 1 x2 x3) 34 (0, 0))) (hM7w.setCell ⟨t8, o, none⟩ (.slice s6 ((Q' o).length + 1) c6))) := hide (blk_of ((heap_setCell_other hM7w ⟨t8, o, none⟩ tz _ (ty_ne2 hXd.out hMd.out.b8 (by decide))).trans (blk_heap hX6h.out)))
                      have hX8h := Lib.hid (hXs.out _ hal.out)
                      have hX9h := Lib.hid (hXs.out _ (Below.refl _ _))
                      clear hr6 hq6 hg6 hf6 b86
                      refine h_push (i := 5) (j := 7) (k := 8) (w6 := hM7w) (v' o) (.slice s6 ((Q' o).length + 1) c6) (.slice (some ⟨wc.drew.heap.size, 0, none⟩) 1 1) (.cells (dgmA 1 x2 x3) 34) rfl rfl rfl (by kernel_rfl) (by kernel_rfl) (by kernel_rfl) (by kernel_rfl) (fun _ => rfl) (fun _ => rfl) (fun _ => rfl) ?_ ?_ ?_ ?_ ?_ rfl rfl hX9h.out hX8h.out hX6h.out ?_
                      · go_simp <;> with_reducible rfl
                      · go_simp <;> with_reducible rfl
                      · unfold dgmA
                        go_simp <;> rfl
                      · unfold dgmA
                        go_simp <;> rfl
                      · exact exec_appendP (.tmp 218) (.tmp 220) _ _ rfl rfl rfl hr6h.out
                      simp only [Act.put, List.setIfInBounds_toArray, List.set_cons_zero, List.set_cons_succ]
                      clear cO cO'
                      have hHeld := hX6h.out
                      first
                        | (refine h_run (i := 9) (v := ?_) hHeld rfl (by kernel_rfl) (by kernel_rfl) (by kernel_rfl) ?_ ?_ ?_
                           rotate_left
                           · rfl
                           · (intro x hSx; (try dsimp only at hSx); go_simp <;> with_reducible rfl)
                           simp only [Act.put, List.setIfInBounds_toArray, List.set_cons_zero, List.set_cons_succ])
                        | (refine h_skip (i := 9) hHeld rfl (by kernel_rfl) (by kernel_rfl) (by kernel_rfl) ?_ ?_
                           · rfl
                           simp only [Act.put, List.setIfInBounds_toArray, List.set_cons_zero, List.set_cons_succ])
                      clear hHeld
                      refine h_write (i := 10) (w' := hM7w.setCell ⟨t8, o, none⟩ (.slice s6 ((Q' o).length + 1) c6)) (fun y : World => blk y tz = some (.cells (dgmA 1 x2 x3) 34 (0, 0))) (fun _ h => h) rfl (by kernel_rfl) rfl ?_ hX7h.out ?_
                      · go_simp <;> with_reducible rfl
                      refine h_done (by kernel_rfl) ?_
                      clear cO6 fO6 hMd hXd hXs hal hMa hr6h hX6h hX7h hX8h hX9h
                      have hlq2 := len_push Q' ho (x2, x3)
                      go_wp2_with fail
                      refine ⟨?_, ?_⟩
                      rotate_left
                      · simp [intOf]; omega
                      first
                        | exact ⟨lp ++ [(ma, mb)], upd e who st2, _, _, hln.out, hM7, hGm, hPm, by omega⟩
                        | (repeat (apply Exists.intro)
                           exact ⟨⟨lp ++ [(ma, mb)], upd e who st2, _, _, hln.out, hM7, hGm, hPm, by omega⟩, rfl⟩)
                        | (iterate 100 (apply Exists.intro)
                           exact ⟨⟨lp ++ [(ma, mb)], upd e who st2, _, _, hln.out, hM7, hGm, hPm, by omega⟩, rfl⟩)
        · obtain rfl : who = 2 := by omega
          have j1 : ¬ (2 : Int) < 2 := by omega
          have hRn := Lib.hid (hRA.out.next hSB.out)
          go_wp2_with fail
          refine ⟨?_, ?_⟩
          rotate_left
          · simp [intOf]; omega
          first
            | exact ⟨n + 1, eB, vB, QB, by omega, by go_num, hMB, hide (hGB.out.mono (by omega)), hRn⟩
            | (repeat (apply Exists.intro)
               exact ⟨⟨n + 1, eB, vB, QB, by omega, by go_num, hMB, hide (hGB.out.mono (by omega)), hRn⟩, rfl⟩)
            | (iterate 100 (apply Exists.intro)
               exact ⟨⟨n + 1, eB, vB, QB, by omega, by go_num, hMB, hide (hGB.out.mono (by omega)), hRn⟩, rfl⟩)
    · obtain rfl : n = 120 := by omega
      have i1 : ¬ ((120 : Nat) : Int) < 120 := by omega
      have s0 := PX_end hRA.out.x hRA.out.g0 (hGA.out 0 (by omega)).1.r3 (by omega)
      have s1 := PY_end hRA.out.y hRA.out.g1 (hGA.out 1 (by omega)).1.r3 (by omega)
      have hend := Lib.hid (⟨eA, vA, QA, hMA.out, s0, s1⟩ : ∃ e v Q, MtAt w wr t7 t8 p e v Q ∧ (e 0).st = 2 ∧ (e 1).st = 2)
      clear hMA hRA hGA s0 s1
      go_wp2_with fail
      exact hexit _ _ rfl rfl hend.out
end Go.Proofs.Ytdpngimcmohmaaa
