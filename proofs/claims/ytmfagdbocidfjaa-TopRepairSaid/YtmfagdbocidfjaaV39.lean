import Derived.Test.YtmfagdbocidfjaaV38
import Derived.Deep.AppendLies
import Derived.Deep.MidRow
import Derived.Test.YtmfagdbocidfjaaV06
/- The window of groups: a whole group is told. Conditions: what the blocks hold. -/
namespace Go.Proofs.Ytmfagdbocidfjaa
open Go.RowKit
/-- a part as new -/
def partZ : Array Value := #[.bool false, .int .u32 0, .int .i64 0, .int .i64 0, .slice none 0 0, .slice none 0 0, .bool false]
set_option maxRecDepth 100000 in
theorem partZ_list : partZ.toList = [.bool false, .int .u32 0, .int .i64 0, .int .i64 0, .slice none 0 0, .slice none 0 0, .bool false] := rfl
set_option maxRecDepth 100000 in
theorem partZ_size : partZ.size = 7 := rfl
set_option maxRecDepth 100000 in
theorem partZ_info : (Try.prog.info? 114).map (·.size) = some partZ.size := by kernel_rfl
set_option maxRecDepth 100000 in
theorem partZ_one : partZ.all (·.oneCell') = true := by simp [partZ, Value.oneCell']
set_option maxRecDepth 100000 in
theorem partZ_get (j : Nat) (h : j < 7) : partZ.toList[j]? = some (pz j) := by
  rcases j with _ | _ | _ | _ | _ | _ | _ | j
  · rfl
  · rfl
  · rfl
  · rfl
  · rfl
  · rfl
  · rfl
  · omega
def pBuild (parts : Array (Nat × Value)) : Sem Value := Instr.build 114 parts
set_option maxRecDepth 100000 in
theorem pBuild_of (parts : Array (Nat × Value)) : Instr.build 114 parts = pBuild parts := by unfold pBuild; rfl
set_option maxRecDepth 100000 in
theorem pBuild_0 (w : World) : (pBuild #[]).run Try.prog w = .ok (.agg partZ) w := by kernel_rfl
set_option maxRecDepth 100000 in
theorem WinAt.clear {w : World} {x p base fr : Nat} {rdy : Value} {d m : Int} {q : Nat → Value} (h : WinAt w x p base fr rdy d m q) (hb : base < 32) :
    w.there x (3 + base * 7) partZ.size ∧ WinAt (w.setCells x (3 + base * 7) partZ.toList) x p base fr rdy d m pz ∧ w.grownBy (w.setCells x (3 + base * 7) partZ.toList) (some x) := by
  obtain ⟨C, hC, h1, h2, h3, h4, h5, h6, h7, h8⟩ := h
  obtain ⟨C', g1, g2, g3, g4, g5⟩ := setCells_blk x _ partZ.toList (3 + base * 7) w C hC
  have hl : partZ.toList.length = 7 := rfl
  rw [hl] at g3 g4
  refine ⟨fun j hj => ⟨?_, frozen_of_row w x _ _ _ hC⟩, ⟨C', g1, g2.trans h1, ?_, ?_, ?_, ?_, ?_, ?_, fun k j hk hj => ?_⟩, g5⟩
  · rw [partZ_size] at hj
    rw [cell_of_block hC, h8 base j hb hj]
    rfl
  · rw [g3 _ (.inl (by omega))]; exact h2
  · rw [g3 _ (.inl (by omega))]; exact h3
  · rw [g3 _ (.inl (by omega))]; exact h4
  · rw [g3 _ (.inr (by omega))]; exact h5
  · rw [g3 _ (.inr (by omega))]; exact h6
  · rw [g3 _ (.inr (by omega))]; exact h7
  · by_cases e : k = base
    · subst e
      rw [g4 j hj (by omega), partZ_get j hj, if_pos rfl]
    · rw [g3 _ (by omega), h8 k j hk hj, if_neg e, if_neg e]
set_option maxRecDepth 100000 in
/-- in a region that draws its order: an append whose run is known -/
theorem step_appM {P : Program} {ops : Array Oper} {o : Oper} {a : Act} {w w' : World} {K : Act → World → Prop} {Q : Exit → Act → World → Prop} {E : Prop} {v xv r : Value} (hgd : o.guard = none) (s x : Operand) (t u : TypeId)
    (ho : o.op = .call { callee := .builtin .append, args := #[s, x], argTypes := #[t, u] }) (hs : a.eval s = v) (hx : a.eval x = xv) (hr : (Builtin.append_ #[t, u] o.type #[v, xv]).run P w = .ok r w') (h : K (a.put o.dst r) w') :
    if Region.wanted o (yielded ops a.tmps) = true then Oper.wp P o a w K Q else E := by
  have hw : Region.wanted o (yielded ops a.tmps) = true := by simp [Region.wanted, hgd]
  rw [if_pos hw]
  unfold Oper.wp
  rw [exec_appendM s x t u ho hs hx hr]
  exact h
/-- the arrays of lost shards stay -/
def Kpt (w y : World) : Prop := ∀ (b : Nat) (C : Array Value), w.heap[b]? = some (.cells C 67 (0, 0)) → y.heap[b]? = some (.cells C 67 (0, 0))
set_option maxRecDepth 100000 in
theorem Kpt.refl (w : World) : Kpt w w := fun _ _ h => h
set_option maxRecDepth 100000 in
theorem Kpt.trans {a b c : World} (h : Kpt a b) (k : Kpt b c) : Kpt a c := fun i C e => k i C (h i C e)
set_option maxRecDepth 100000 in
theorem Kpt.below {w y : World} (h : Below w.heap.size w y) : Kpt w y := fun i C e => (h.block i (Array.getElem?_eq_some_iff.1 e).1).trans e
set_option maxRecDepth 100000 in
theorem Kpt.grown {w y : World} {row : Option Nat} (h : w.grownBy y row) (hr : ∀ b, row = some b → ∃ C T', w.heap[b]? = some (.cells C T' (0, 0)) ∧ T' ≠ 67) : Kpt w y := fun i C e => by
  refine (h.block i (Array.getElem?_eq_some_iff.1 e).1 (fun e2 => ?_)).trans e
  obtain ⟨C', T', h1, h2⟩ := hr i e2.symm
  rw [e] at h1
  injection h1 with h1
  injection h1 with _ h3
  exact h2 h3.symm
/-- inputs as cells -/
def inL (In : Nat → Nat) (K : Nat) : List Value := (List.range K).map fun j => .int .u16 (In j : Nat)
set_option maxRecDepth 100000 in
theorem inL_len (In : Nat → Nat) (K : Nat) : (inL In K).length = K := by unfold inL; simp
set_option maxRecDepth 100000 in
theorem inL_one (In : Nat → Nat) (K : Nat) : ∀ u ∈ inL In K, u.oneCell' = true := fun u hu => by
  unfold inL at hu
  simp only [List.mem_map] at hu
  obtain ⟨_, _, rfl⟩ := hu
  rfl
set_option maxRecDepth 100000 in
theorem inL_get {In : Nat → Nat} {K j : Nat} {u : Value} (h : (inL In K)[j]? = some u) : j < K ∧ u = .int .u16 (In j : Nat) := by
  have hj := (List.getElem?_eq_some_iff.1 h).1
  rw [inL_len] at hj
  unfold inL at h
  rw [List.getElem?_map, List.getElem?_range hj] at h
  exact ⟨hj, (Option.some.inj h).symm⟩
def Told (w : World) (x p base fr K : Nat) (d mm : Int) (L : List Value) (In : Nat → Nat) (w' : World) : Prop :=
  ∃ rdy', WinAt w' x p (base + 1) (fr + K) rdy' d mm pz ∧ VAt w' x 34 1 rdy' (fr + K) (L ++ inL In K) ∧ Below x w w' ∧ Kpt w w'
def TellRel (w : World) (x p base fr K : Nat) (d mm : Int) (L : List Value) (In : Nat → Nat) (v2 : Value) (wr : World) : Prop :=
  (v2 = undef ∧ wr = w) ∨ (v2 = .pointer (some ⟨x, 3 + base * 7, none⟩) ∧ Told w x p base fr K d mm L In wr)
def tellM : Value → Nat
  | .pointer _ => 0
  | _ => 1
attribute [local irreducible] inL partZ pBuild
attribute [local go_sem ↓] pBuild_of
attribute [local go_sem] pBuild_0
set_option maxRecDepth 100000 in
set_option maxHeartbeats 4000000 in
theorem re_tell (x p base fr K m bi oi ci : Nat) (rdy sh : Value) (d mm : Int) (L : List Value) (In : Nat → Nat) (w : World) (hw : WinAt w x p base fr rdy d mm (pd fr K m sh (.slice (some ⟨bi, oi, none⟩) K ci))) (hb : base < 32) (hr : VAt w x 34 1 rdy fr L) (hi : ∀ j, j < K → w.cell? ⟨bi, oi + j, none⟩ = some (.int .u16 (In j : Nat))) (hf : fr ≤ 1000) (hK : K ≤ 8) :
    Calls Try.prog 60 #[.pointer (some ⟨x, 0, none⟩)] w (fun e w' => e = .returned (.tuple #[]) ∧ Told w x p base fr K d mm L In w') := by
  have hwh := Lib.hid hw
  have hrh := Lib.hid hr
  have hih := Lib.hid hi
  have hm : (base : Int).tmod 32 = (base : Int) := by rw [Int.tmod_eq_emod_of_nonneg (by omega)]; omega
  have hm2 : IntKind.u32.wrap (base : Int) = (base : Int) := IntWalk.u32_in _ (by omega)
  have hm3 : (base : Int) < 32 := by omega
  have hfw : IntKind.i64.wrap (fr : Int) = (fr : Int) := IntWalk.i64_in _ (by omega)
  have hfn : ((fr : Int) != (fr : Int)) = false := by simp
  have hfk : IntKind.i64.wrap ((fr : Int) + (K : Int)) = ((fr + K : Nat) : Int) := by rw [IntWalk.i64_in _ (by omega)]; omega
  have hbk : IntKind.u32.wrap ((base : Int) + 1) = ((base + 1 : Nat) : Int) := by rw [IntWalk.u32_in _ (by omega)]; omega
  have hfkh := Lib.hid hfk
  have hbkh := Lib.hid hbk
  clear hw hr hi hfk hbk
  go_enter Try.func60, Try.ntmps60
  go_upto_region 0 with (fail)
  go_loopw [2] (fun v2 wr => TellRel w x p base fr K d mm L In v2 wr) (fun v2 _ => tellM v2)
  case atStart => exact .inl ⟨rfl, rfl⟩
  case round =>
    rcases hrel with ⟨rfl, rfl⟩ | ⟨rfl, rdy', hwr, hvr, hBr, hKr⟩
    · have hp := hwh.out.part hb
      obtain ⟨o, ho⟩ : ∃ o, 3 + base * 7 = o := ⟨_, rfl⟩
      rw [ho] at hp
      have c1 := hwh.out.cells.2.1
      have c2 := hwh.out.cells.2.2.1
      have c6 : wr.cell? ⟨x, o + 6, none⟩ = some (.bool true) := hp 6 (by omega)
      have cf : wr.cell? ⟨x, o + 1, none⟩ = some (.int .u32 (fr : Nat)) := hp 1 (by omega)
      have hoh := Lib.hid ho
      clear hp ho
      go_upto_region 0 with (fail)
      go_quiet (fail)
      obtain ⟨n0, rfl⟩ : ∃ n0, n0 = nq := ⟨_, rfl⟩
      rw [hoh.out]
      go_upto_region 1 with (fail)
      go_quiet (fail)
      go_upto_region 2 with (fail)
      obtain ⟨w1, hw1⟩ : ∃ w1, (wr.drewN n0).drewN nq = w1 := ⟨_, rfl⟩
      rw [hw1]
      have hB1 : Below wr.heap.size wr w1 := hw1 ▸ below_drewN (below_drewN (Below.refl _ _) _) _
      have hwA := hwh.out.below hB1
      have hBd := below_drewN (Below.refl w1.heap.size w1) 1
      have hwB := hwA.below hBd
      obtain ⟨rdy', W6, hr6, hv6, hg6, hn6, _⟩ := v_app (P := Try.prog) (S := 31) (T := 34) Try.underlying31 infoIn rfl (by decide) (by decide) ((hrh.out.below hB1).below hBd) (Nat.le_of_lt hwB.lt) ⟨bi, oi, none⟩ K ci (inL In K) (by rw [inL_len]; omega) (fun j u hj => by
        obtain ⟨h1, rfl⟩ := inL_get hj
        rw [Addr.add_lit]
        have h2 := hih.out j h1
        have h3 := (hB1.cell (p := ⟨bi, oi + j, none⟩) (cell_block_lt h2)).trans h2
        exact (hBd.cell (p := ⟨bi, oi + j, none⟩) (cell_block_lt h3)).trans h3) (inL_one In K) (by omega) 31
      have hxne : some x ≠ rdy.ownBlock := fun e => by
        obtain ⟨_, C, hC⟩ := hrh.out.lt x e.symm
        obtain ⟨C', hC'⟩ := hwh.out.type
        rw [hC] at hC'
        injection hC' with hC'
        injection hC' with _ h3
        exact absurd h3 (by decide)
      have hw6 := hwB.kept (hg6.block x hwB.lt hxne)
      have hB6 : Below x wr W6 := (hB1.mono (Nat.le_of_lt hwh.out.lt)).trans ((hBd.mono (Nat.le_of_lt hwA.lt)).trans ⟨hg6.os, hg6.tape, hg6.output, hg6.size, fun i hi => hg6.block i (Nat.lt_trans hi hwB.lt) (fun e => by have := (hrh.out.lt i e.symm).1; omega)⟩)
      obtain ⟨s6, cp6, rfl, _⟩ := hv6.form
      obtain ⟨L6, hL6⟩ : ∃ L6, fr + K = L6 := ⟨_, rfl⟩
      rw [hL6] at hr6 hv6
      have hKp6 : Hid (Kpt wr W6) := hide ((Kpt.below hB1).trans ((Kpt.below hBd).trans (Kpt.grown hg6 (fun b hb => by
        obtain ⟨_, C, hC⟩ := ((hrh.out.below hB1).below hBd).lt b hb
        exact ⟨C, _, hC, by decide⟩))))
      have hr6h := Lib.hid hr6
      have hv6h := Lib.hid hv6
      have hw6h := Lib.hid hw6
      have hB6h := Lib.hid hB6
      have hpA := hwA.part hb
      rw [hoh.out] at hpA
      have a7 := hwA.cells.2.2.2.1
      have a5 : w1.cell? ⟨x, o + 5, none⟩ = some (.slice (some ⟨bi, oi, none⟩) K ci) := hpA 5 (by omega)
      have b7 := hw6.cells.2.2.2.1
      have f7 := hw6.frozen 227
      clear c1 c2 c6 cf hw1 hB1 hwA hBd hwB hr6 hv6 hg6 hn6 hxne hw6 hB6 hpA
      go_cut [] (fun wx => wx = W6.setCell ⟨x, 227, none⟩ (.slice s6 L6 cp6))
      case first =>
        go_region_law (first | (refine step_appM rfl (.tmp 33) (.tmp 37) _ _ rfl rfl rfl hr6h.out ?_))
        all_goals
          go_wp2_with fail
          go_meet
          rfl
      case rest =>
        subst hcut
        have v7 := hw6h.out.ready (.slice s6 L6 cp6)
        have v7v : VAt (W6.setCell ⟨x, 227, none⟩ (.slice s6 L6 cp6)) x 34 1 (.slice s6 L6 cp6) L6 (L ++ inL In K) := hv6h.out.other (only_set (only_refl W6 (some x)) 227 _) (fun b hb => by
          cases hb
          obtain ⟨C, hC⟩ := hw6h.out.type
          exact ⟨C, _, hC, by decide⟩)
        have hB7 : Below x wr (W6.setCell ⟨x, 227, none⟩ (.slice s6 L6 cp6)) := below_grown hB6h.out (Nat.le_of_lt hwh.out.lt) (only_set (only_refl W6 (some x)) 227 _) (fun b hb => by cases hb; exact Nat.le_refl _)
        have hKp7 : Hid (Kpt wr (W6.setCell ⟨x, 227, none⟩ (.slice s6 L6 cp6))) := hide (hKp6.out.trans (Kpt.grown (only_set (only_refl W6 (some x)) 227 _) (fun b hb => by
          cases hb
          obtain ⟨C, hC⟩ := hw6h.out.type
          exact ⟨C, _, hC, by decide⟩)))
        generalize W6.setCell ⟨x, 227, none⟩ (.slice s6 L6 cp6) = W7 at *
        have v7h := Lib.hid v7
        have v7vh := Lib.hid v7v
        have hB7h := Lib.hid hB7
        have hp7 := v7.part hb
        rw [hoh.out] at hp7
        have a5 : W7.cell? ⟨x, o + 5, none⟩ = some (.slice (some ⟨bi, oi, none⟩) K ci) := hp7 5 (by omega)
        have a2 := v7.cells.2.2.1
        have f2 := v7.frozen 2
        have hfk := hfkh.out
        rw [hL6] at hfk
        have hL6h := Lib.hid hL6
        clear v7 v7v hB7 hp7 hr6h hv6h hw6h hB6h hL6
        go_upto_region 3 with (fail)
        go_cut [] (fun wx => wx = W7.drew.setCell ⟨x, 2, none⟩ (.int .i64 (L6 : Nat)))
        case first =>
          go_region
          all_goals
            go_wp2_with fail
            go_meet
            rfl
        case rest =>
          have v7d : WinAt W7.drew x p base fr (.slice s6 L6 cp6) d mm (pd fr K m sh (.slice (some ⟨bi, oi, none⟩) K ci)) := v7h.out.below (below_drewN (Below.refl _ _) 1)
          have v8 := v7d.frames L6
          have hxt : ∀ b, some x = some b → ∃ C T', W7.drew.heap[b]? = some (.cells C T' (0, 0)) ∧ T' ≠ 34 := fun b hb => by
            cases hb
            obtain ⟨C, hC⟩ := v7d.type
            exact ⟨C, _, hC, by decide⟩
          have hgA := only_set (only_refl W7.drew (some x)) 2 (.int .i64 (L6 : Nat))
          obtain ⟨hth, v9, hgB⟩ := v8.clear hb
          have v10 := v9.next (base + 1)
          have hgC := only_set (only_trans hgA hgB) 1 (.int .u32 ((base + 1 : Nat) : Int))
          have v10v := (v7vh.out.below (below_drewN (Below.refl _ _) 1)).other hgC hxt
          have hB10 := below_grown (hB7h.out.trans (below_drewN (Below.refl _ _) 1)) (Nat.le_of_lt hwh.out.lt) hgC (fun b hb => by cases hb; exact Nat.le_refl _)
          have hKp10 : Kpt wr _ := hKp7.out.trans ((Kpt.below (below_drewN (Below.refl W7.heap.size W7) 1)).trans (Kpt.grown (row := some x) hgC (fun b hb => by
            cases hb
            obtain ⟨C, hC⟩ := v7d.type
            exact ⟨C, _, hC, by decide⟩)))
          have a1 := v9.cells.2.1
          have f1 := v9.frozen 1
          rw [hoh.out, ← hcut] at hth v9 v10 v10v hB10 hKp10 a1 f1
          have hend : Hid (TellRel wr x p base fr K d mm L In (.pointer (some ⟨x, o, none⟩)) ((wc.setCells x o partZ.toList).setCell ⟨x, 1, none⟩ (.int .u32 ((base + 1 : Nat) : Int)))) := hide (.inr ⟨by rw [hoh.out], _, by rw [hL6h.out]; exact v10, by rw [hL6h.out]; exact v10v, hB10, hKp10⟩)
          have hbk := hbkh.out
          obtain ⟨b1, hb1⟩ : ∃ b1, base + 1 = b1 := ⟨_, rfl⟩
          rw [hb1] at hend hbk
          clear v7d v8 hxt hgA hgB hgC v9 v10 v10v hB10 hKp10 hb1 hcut
          go_upto_region 5 with (with_reducible refine wpList_store_mid rfl 114 (.tmp 55) (.tmp 54) rfl x o partZ rfl rfl hth partZ_info partZ_one ?_)
          generalize World.setCells wc x o partZ.toList = W9 at *
          go_wp2_with fail
          refine ⟨?_, ?_⟩
          rotate_left
          · exact (show (0 : Nat) < 1 from Nat.zero_lt_one)
          first
            | exact hend.out
            | (repeat (apply Exists.intro)
               exact ⟨hend.out, rfl⟩)
    · obtain ⟨o, ho⟩ : ∃ o, (base + 1) % 32 = o := ⟨_, rfl⟩
      have c1 := hwr.cells.2.1
      have c6 : wr.cell? ⟨x, 3 + o * 7 + 6, none⟩ = some (.bool false) := by
        obtain ⟨C, hC, hWC⟩ := hwr
        rw [cell_of_block hC, hWC.2.2.2.2.2.2.2 o 6 (by omega) (by omega)]
        split <;> rfl
      have hm' : ((base + 1 : Nat) : Int).tmod 32 = (o : Int) := by rw [Int.tmod_eq_emod_of_nonneg (by omega)]; omega
      have hm2' : IntKind.u32.wrap (o : Int) = (o : Int) := IntWalk.u32_in _ (by omega)
      have hm3' : (o : Int) < 32 := by omega
      have hend : Hid (∀ q r, Told w x p base fr K d mm L In ((wr.drewN q).drewN r)) := hide (fun q r => ⟨_, hwr.below (below_drewN (below_drewN (Below.refl _ _) q) r), hvr.below (below_drewN (below_drewN (Below.refl _ _) q) r), hBr.trans (below_drewN (below_drewN (Below.refl _ _) q) r), hKr.trans (Kpt.below (below_drewN (below_drewN (Below.refl _ _) q) r))⟩)
      obtain ⟨b1, hb1⟩ : ∃ b1, base + 1 = b1 := ⟨_, rfl⟩
      rw [hb1] at c1 hm'
      clear hwr hvr hBr hKr hb1 ho hm hm2 hm3
      go_upto_region 0 with (fail)
      go_quiet (fail)
      go_upto_region 1 with (fail)
      go_quiet (fail)
      go_wp2_with fail
      (try simp only [Exit.inBlock, Exit.then])
      refine bodyPost_ret (results_none rfl _ _ _) rfl ?_
      exact ⟨rfl, hend.out _ _⟩
end Go.Proofs.Ytmfagdbocidfjaa

/- Two operations of a drawn region, ready at once: one reads, one makes memory. Lemmas alone. -/
namespace Go.Proofs.Ytmfagdbocidfjaa
open Go.RowKit
section
variable {P : Program} {ops : Array Oper} {Q : Exit → Act → World → Prop} {S : World → Prop}
set_option maxRecDepth 100000 in
/-- two operations ready at once, in either order: the first only reads, the second may make memory -/
theorem h_twoR {i j : Nat} {oi oj : Oper} {vi vj : Value} {fuel : Nat} {listed : Array Bool} {a : Act} {w w1 : World}
    (hi0 : opAt ops.toList i = some oi) (hj0 : opAt ops.toList j = some oj)
    (r0 : Region.ready .any ops listed = [i, j]) (ri : Region.ready .any ops (listed.setIfInBounds i true) = [j]) (rj : Region.ready .any ops (listed.setIfInBounds j true) = [i])
    (wi : ∀ t, Region.wanted oi t = true) (wj : ∀ t, Region.wanted oj t = true)
    (ei : (execOp a.eval oi).run P w = .ok (.value vi) w) (ej : (execOp a.eval oj).run P w = .ok (.value vj) w1)
    (ei' : (execOp (a.put oj.dst vj).eval oi).run P w1 = .ok (.value vi) w1) (ej' : (execOp (a.put oi.dst vi).eval oj).run P w = .ok (.value vj) w1)
    (hl : (listed.setIfInBounds j true).setIfInBounds i true = (listed.setIfInBounds i true).setIfInBounds j true) (ha : (a.put oj.dst vj).put oi.dst vi = (a.put oi.dst vi).put oj.dst vj)
    (hS : S w) (hS1 : S w1) (h : wpAnyH P .any ops (NoPanic Q) S fuel ((listed.setIfInBounds i true).setIfInBounds j true) ((a.put oi.dst vi).put oj.dst vj) w1) :
    wpAnyH P .any ops (NoPanic Q) S (fuel + 1 + 1) listed a w := by
  refine wpAnyH_all r0 (by simp) (fun m hm => ?_)
  have hm2 : m = i ∨ m = j := by simpa using hm
  rcases hm2 with rfl | rfl
  · refine wpOp_step (opAt_of hi0) (fun K' hK => ?_)
    rw [if_pos (wi _)]
    unfold Oper.wp
    rw [ei]
    exact hK _ _ ⟨hS, h_value (i := j) S (fun _ h => h) hj0 ri (wj _) ej' hS1 h⟩
  · refine wpOp_step (opAt_of hj0) (fun K' hK => ?_)
    rw [if_pos (wj _)]
    unfold Oper.wp
    rw [ej]
    refine hK _ _ ⟨hS1, h_value (i := i) S (fun _ h => h) hi0 rj (wi _) ei' hS1 ?_⟩
    rw [hl, ha]
    exact h
set_option maxRecDepth 100000 in
/-- two operations are ready, of which the first only reads: both ways are walked -/
theorem h_fork {i j : Nat} {oi oj : Oper} {vi vj : Value} {fuel : Nat} {listed : Array Bool} {a : Act} {w w1 : World}
    (hi0 : opAt ops.toList i = some oi) (hj0 : opAt ops.toList j = some oj) (r0 : Region.ready .any ops listed = [i, j])
    (wi : ∀ t, Region.wanted oi t = true) (wj : ∀ t, Region.wanted oj t = true)
    (ei : (execOp a.eval oi).run P w = .ok (.value vi) w) (ej : (execOp a.eval oj).run P w = .ok (.value vj) w1)
    (hS : S w) (hS1 : S w1) (hA : wpAnyH P .any ops (NoPanic Q) S fuel (listed.setIfInBounds i true) (a.put oi.dst vi) w) (hB : wpAnyH P .any ops (NoPanic Q) S fuel (listed.setIfInBounds j true) (a.put oj.dst vj) w1) :
    wpAnyH P .any ops (NoPanic Q) S (fuel + 1) listed a w := by
  refine wpAnyH_all r0 (by simp) (fun m hm => ?_)
  have hm2 : m = i ∨ m = j := by simpa using hm
  rcases hm2 with rfl | rfl
  · refine wpOp_step (opAt_of hi0) (fun K' hK => ?_)
    rw [if_pos (wi _)]
    unfold Oper.wp
    rw [ei]
    exact hK _ _ ⟨hS, hA⟩
  · refine wpOp_step (opAt_of hj0) (fun K' hK => ?_)
    rw [if_pos (wj _)]
    unfold Oper.wp
    rw [ej]
    exact hK _ _ ⟨hS1, hB⟩
end
end Go.Proofs.Ytmfagdbocidfjaa
