import Derived.Test.YtmfagdbocidfjaaV31
import Derived.Test.YtmfagdbocidfjaaV33
/- A shard's datagram as bytes. Conditions: what the blocks hold. -/
namespace Go.Proofs.Ytmfagdbocidfjaa
open Go.RowKit
set_option maxRecDepth 100000 in
theorem VAt.ptr {W : World} {lo : Nat} {T : TypeId} {sz : Nat} {v : Value} {n : Nat} {xs : List Value} (h : VAt W lo T sz v n xs) (hn : 0 < n) : ∃ b off cap, v = .slice (some ⟨b, off, none⟩) n cap ∧ lo ≤ b := by
  rcases h.2.2 with ⟨_, h0⟩ | ⟨b, off, cap, C, e, hb, _⟩
  · omega
  · exact ⟨b, off, cap, e, hb⟩
set_option maxRecDepth 100000 in
/-- bytes that are named, behind a row of one's own -/
theorem app_lit {w : World} {lo n : Nat} {v : Value} {xs : List Int} (h : VAt w lo 5 1 v n (bytesOf xs)) (hlo : lo ≤ w.heap.size) (l : List Int) (m : Nat) (hm : l.length = m) (hn : n + m ≤ 100000) (ty : TypeId) :
    ∃ v' W', (Builtin.append_ #[71, 71] ty #[v, .slice (some ⟨w.heap.size, 0, none⟩) m m]).run Try.prog (w.alloc (.cells (bytesOf l).toArray 5)) = .ok v' W' ∧ VAt W' lo 5 1 v' (n + m) (bytesOf (xs ++ l)) ∧ Below lo w W' := by
  subst hm
  have hB : Below w.heap.size w (w.alloc (.cells (bytesOf l).toArray 5)) := (Below.refl _ _).alloc (Nat.le_refl _) _
  have hblk : (w.alloc (.cells (bytesOf l).toArray 5)).heap[w.heap.size]? = some (.cells (bytesOf l).toArray 5 (0, 0)) := Array.getElem?_push_size (xs := w.heap)
  obtain ⟨v', W', hr, hv, hg, hf, _⟩ := v_app (P := Try.prog) (S := 71) (T := 5) Try.underlying71 info_u8 rfl (by decide) (by decide) (h.below hB) (Nat.le_trans hlo hB.size) ⟨w.heap.size, 0, none⟩ l.length l.length (bytesOf l) (by rw [bytesOf_length]; omega) (fun j u hj => by
    rw [Addr.add_lit, Nat.zero_add, cell_of_block hblk]
    simpa using hj) (bytesOf_one _) (by omega) ty
  exact ⟨v', W', hr, by rw [bytesOf_app]; exact hv, below_grown (hB.mono hlo) hlo hg (fun p hp => (h.lt p hp).1)⟩
set_option maxRecDepth 100000 in
/-- bytes that lie somewhere, behind a row of one's own -/
theorem app_row {w : World} {lo n : Nat} {v : Value} {xs : List Int} (h : VAt w lo 5 1 v n (bytesOf xs)) (hlo : lo ≤ w.heap.size) (l : List Int) (m c b off : Nat) (hm : l.length = m) (hl : ∀ j x, l[j]? = some x → w.cell? ⟨b, off + j, none⟩ = some (.int .u8 x)) (hn : n + m ≤ 100000) (ty : TypeId) :
    ∃ v' W', (Builtin.append_ #[71, 71] ty #[v, .slice (some ⟨b, off, none⟩) m c]).run Try.prog w = .ok v' W' ∧ VAt W' lo 5 1 v' (n + m) (bytesOf (xs ++ l)) ∧ Below lo w W' := by
  subst hm
  obtain ⟨v', W', hr, hv, hg, hf, _⟩ := v_app (P := Try.prog) (S := 71) (T := 5) Try.underlying71 info_u8 rfl (by decide) (by decide) h hlo ⟨b, off, none⟩ l.length c (bytesOf l) (by rw [bytesOf_length]; omega) (fun j u hj => by
    rw [Addr.add_lit]
    unfold bytesOf at hj
    rw [List.getElem?_map] at hj
    cases hx : l[j]? with
    | none => rw [hx] at hj; cases hj
    | some x => rw [hx] at hj; rw [hl j x hx]; exact hj) (bytesOf_one _) (by omega) ty
  exact ⟨v', W', hr, by rw [bytesOf_app]; exact hv, below_grown (Below.refl lo w) hlo hg (fun p hp => (h.lt p hp).1)⟩
/-- the five numbers of a shard's datagram -/
def w5 (no fi : Int) : List Int := [0, 0, 0, no, fi]
/-- the first j of them as bytes -/
def be5 (no fi : Int) (j : Nat) : List Int := ((w5 no fi).take j).flatMap be4
set_option maxRecDepth 100000 in
theorem be5_step (no fi : Int) (j : Nat) (x : Int) (h : (w5 no fi)[j]? = some x) : be5 no fi (j + 1) = be5 no fi j ++ be4 x := by
  unfold be5
  rw [List.take_add_one, h]
  simp
set_option maxRecDepth 100000 in
theorem dg_cl {y : World} {p : Nat} {T : TypeId} {a0 a1 a2 a3 a4 a5 a6 a7 a8 a9 a10 : Value} (h : y.heap[p]? = some (.cells #[a0, a1, a2, a3, a4, a5, a6, a7, a8, a9, a10] T (0, 0))) : y.cell? ⟨p, 0, none⟩ = some a0 ∧ y.cell? ⟨p, 1, none⟩ = some a1 ∧ y.cell? ⟨p, 2, none⟩ = some a2 ∧ y.cell? ⟨p, 3, none⟩ = some a3 ∧ y.cell? ⟨p, 4, none⟩ = some a4 ∧ y.cell? ⟨p, 5, none⟩ = some a5 ∧ y.cell? ⟨p, 6, none⟩ = some a6 ∧ y.cell? ⟨p, 7, none⟩ = some a7 ∧ y.cell? ⟨p, 8, none⟩ = some a8 ∧ y.cell? ⟨p, 9, none⟩ = some a9 ∧ y.cell? ⟨p, 10, none⟩ = some a10 :=
  ⟨(cell_of_block h).trans rfl, (cell_of_block h).trans rfl, (cell_of_block h).trans rfl, (cell_of_block h).trans rfl, (cell_of_block h).trans rfl, (cell_of_block h).trans rfl, (cell_of_block h).trans rfl, (cell_of_block h).trans rfl, (cell_of_block h).trans rfl, (cell_of_block h).trans rfl, (cell_of_block h).trans rfl⟩
set_option maxRecDepth 100000 in
theorem be2_len (x : Int) : (be2 x).length = 2 := rfl
set_option maxRecDepth 100000 in
theorem be4_len (x : Int) : (be4 x).length = 4 := rfl
set_option maxRecDepth 100000 in
theorem be5_len (no fi : Int) (j : Nat) (hj : j ≤ 5) : (be5 no fi j).length = 4 * j := by
  rcases j with _ | _ | _ | _ | _ | _ | j <;> first | rfl | omega
/-- a shard's datagram as bytes, without the sum -/
def wireF (no fi : Int) (K m i : Nat) (f : Nat → Nat) : List Int := be2 17003 ++ [dgK K i, 0] ++ be5 no fi 5 ++ [(K : Int), (m : Int), (i : Int)] ++ be2 2 ++ [((f 0 : Nat) : Int), ((f 1 : Nat) : Int)]
def EncPost (W : World) (l : List Int) (e : Ending) (W' : World) : Prop := ∃ v', e = .returned (.tuple #[v', .int .i64 0]) ∧ VAt W' W.heap.size 5 1 v' l.length (bytesOf l) ∧ Below W.heap.size W W'
def EcRel (wA : World) (no fi kd : Int) (q : Nat) (v7 v37 : Value) (wr : World) : Prop := ∃ j : Nat, j ≤ 5 ∧ v37 = .int .i64 (j : Nat) ∧ VAt wr wA.heap.size 5 1 v7 (4 + 4 * j) (bytesOf (be2 17003 ++ [kd, 0] ++ be5 no fi j)) ∧ Below wA.heap.size wA wr ∧ wr.heap[q]? = some (.cells ((w5 no fi).map fun x => Value.int .u32 x).toArray 22 (0, 0))
set_option maxRecDepth 100000 in
theorem w5_get (no fi : Int) (j : Nat) (h : j < 5) : ∃ x, (w5 no fi)[j]? = some x := ⟨_, List.getElem?_eq_getElem h⟩
set_option maxRecDepth 100000 in
theorem w5_cell {y : World} {q : Nat} {no fi : Int} {T : TypeId} (h : y.heap[q]? = some (.cells ((w5 no fi).map fun x => Value.int .u32 x).toArray T (0, 0))) {j : Nat} {x : Int} (hx : (w5 no fi)[j]? = some x) : y.cell? ⟨q, j, none⟩ = some (.int .u32 x) := by
  rw [cell_of_block h]
  simp [hx]
attribute [local irreducible] blk wLoad wLoadRes loadAns wStore wStoreRes storeAns Plain sumF be4 be2 be5
attribute [local go_sem ↓] ld_d0 sto_d0
attribute [local go_sem] ld_d sto_d loadAns_some storeAns_some dg_size dg_plain blk_alloc_if blk_setRow_if blk_drew_at blk_drewN_at rowPut_some blk_setCell_if cellPut_some
set_option maxRecDepth 100000 in
set_option maxHeartbeats 4000000 in
theorem wi_encode (t : Nat) (T : Nat → Int) (no fi : Int) (K m i g c : Nat) (f : Nat → Nat) (w : World) (hT : TbAt w t T) (hr : BRow w g 2 f) (hK1 : 1 ≤ K) (hK : K ≤ 16) (hm : m ≤ 16) (hi : i < K + m) :
    Calls Try.prog 23 #[.pointer (some ⟨t, 0, none⟩), dgV no fi K m i g c] w (EncPost w (wireF no fi K m i f ++ le4 (sumF T (wireF no fi K m i f)))) := by
  have hchk := Lib.hid (fun W => wi_check no fi K m i g c W hK1 hK hm hi)
  have hwK : IntKind.u8.wrap (K : Int) = (K : Int) := IntWalk.u8_in _ (by omega)
  have hwm : IntKind.u8.wrap (m : Int) = (m : Int) := IntWalk.u8_in _ (by omega)
  have hwi : IntKind.u8.wrap (i : Int) = (i : Int) := IntWalk.u8_in _ (by omega)
  have hdk : IntKind.u8.wrap (dgK K i) = dgK K i := IntWalk.u8_in _ (by unfold dgK; split <;> omega)
  unfold dgV at *
  obtain ⟨kd, hkd⟩ : ∃ kd, dgK K i = kd := ⟨_, rfl⟩
  unfold wireF
  rw [hkd] at hchk hdk ⊢
  obtain ⟨l, hl⟩ : ∃ l, be2 17003 ++ [kd, 0] ++ be5 no fi 5 ++ [(K : Int), (m : Int), (i : Int)] ++ be2 2 ++ [((f 0 : Nat) : Int), ((f 1 : Nat) : Int)] = l := ⟨_, rfl⟩
  have hlnh : Hid (l.length = 31) := hide (by rw [← hl]; simp only [List.length_append, be2_len, be5_len no fi 5 (by omega), List.length_cons, List.length_nil])
  have hlh := Lib.hid hl
  rw [hl]
  clear hl
  obtain ⟨wA, hwA⟩ : ∃ wA, w.alloc (.cells #[.int .i64 kd, .int .u32 0, .int .u32 0, .int .i64 0, .int .u32 0, .int .u32 no, .int .u32 fi, .int .i64 (K : Nat), .int .i64 (m : Nat), .int .i64 (i : Nat), .slice (some ⟨g, 0, none⟩) 2 c] 73) = wA := ⟨_, rfl⟩
  have hBA : Hid (Below w.heap.size w wA) := hide (hwA ▸ (Below.refl _ _).alloc (Nat.le_refl _) _)
  have h0 : wA.heap[w.heap.size]? = some (.cells #[.int .i64 kd, .int .u32 0, .int .u32 0, .int .i64 0, .int .u32 0, .int .u32 no, .int .u32 fi, .int .i64 (K : Nat), .int .i64 (m : Nat), .int .i64 (i : Nat), .slice (some ⟨g, 0, none⟩) 2 c] 73 (0, 0)) := by rw [← hwA]; exact Array.getElem?_push_size (xs := w.heap)
  have hlt : w.heap.size < wA.heap.size := (Array.getElem?_eq_some_iff.1 h0).1
  have hrA := Lib.hid (hr.below hBA.out hr.lt)
  have hTA : Hid (TbAt wA t T) := hide ((hBA.out.block t (Array.getElem?_eq_some_iff.1 hT).1).trans hT)
  have b4 := blk_of h0
  have hS : Hid (∀ y, Below wA.heap.size wA y → y.heap[w.heap.size]? = some (.cells #[.int .i64 kd, .int .u32 0, .int .u32 0, .int .i64 0, .int .u32 0, .int .u32 no, .int .u32 fi, .int .i64 (K : Nat), .int .i64 (m : Nat), .int .i64 (i : Nat), .slice (some ⟨g, 0, none⟩) 2 c] 73 (0, 0))) := hide (fun y hy => (hy.block _ hlt).trans h0)
  have hwAh := Lib.hid hwA
  clear hwA h0 hT hr hK1 hK hm hi hkd
  go_enter Try.func23, Try.ntmps23
  go_upto_region 1 with (fail)
  rw [hwAh.out]
  go_upto_if 3 with (fail)
  refine (hchk.out _).mono ?_
  rintro _ w1 ⟨rfl, hB1⟩
  have hB1h := Lib.hid hB1
  clear hB1 b4 hchk
  go_upto_region 4 with (fail)
  go_wp2_with fail
  refine (v_put16 _ 0 [] 17003 0 w1 (VAt.nil _ _ _ _) (by omega)).mono ?_
  rintro _ w2 ⟨v2, rfl, hv2, hB2⟩
  have hB2h : Hid (Below wA.heap.size wA w2) := hide (hB1h.out.trans (hB2.mono hB1h.out.size))
  have hv2h : Hid (VAt w2 wA.heap.size 5 1 v2 2 (bytesOf (be2 17003))) := hide (by have h := hv2.base hB1h.out.size; rw [be2_len] at h; exact h)
  clear hB2 hv2 hB1h
  go_upto_region 5 with (fail)
  obtain ⟨k0, _, _, k3, _⟩ := dg_cl (hS.out _ hB2h.out)
  obtain ⟨v3, w3, hr3, hv3, hB3⟩ := app_lit hv2h.out hB2h.out.size [kd, 0] 2 rfl (by omega) 71
  have hr3h := Lib.hid hr3
  have hv3h := Lib.hid hv3
  have hB3h := Lib.hid (hB2h.out.trans hB3)
  have hne : w.heap.size ≠ w2.heap.size := by have := hB2h.out.size; omega
  clear hr3 hv3 hB3 hv2h hB2h
  go_upto_region 6 with (at_builtin; refine wpList_app_runV rfl (.tmp 16) (.tmp 23) _ _ rfl rfl rfl hr3h.out ?_)
  clear hr3h hne
  obtain ⟨_, k1, k2, _, k4, k5, k6, _⟩ := dg_cl (hS.out _ hB3h.out)
  obtain ⟨q, hq⟩ : ∃ q, w3.heap.size = q := ⟨_, rfl⟩
  obtain ⟨w4, hw4⟩ : ∃ w4, w3.alloc (.cells ((w5 no fi).map fun x => Value.int .u32 x).toArray 22) = w4 := ⟨_, rfl⟩
  have hB4h : Hid (Below wA.heap.size wA w4) := hide (hw4 ▸ hB3h.out.alloc hB3h.out.size _)
  have hB34 : Below w3.heap.size w3 w4 := hw4 ▸ (Below.refl _ _).alloc (Nat.le_refl _) _
  have hv4h := Lib.hid (hv3h.out.below hB34)
  have hq4h : Hid (w4.heap[q]? = some (.cells ((w5 no fi).map fun x => Value.int .u32 x).toArray 22 (0, 0))) := hide (by rw [← hw4, ← hq]; exact Array.getElem?_push_size (xs := w3.heap))
  have hq0 := Lib.hid hq
  have hw4' : w3.alloc (.cells #[.int .u32 0, .int .u32 0, .int .u32 0, .int .u32 no, .int .u32 fi] 22) = w4 := hw4
  have hw4h := Lib.hid hw4'
  clear hw4 hw4' hB34 hv3h hB3h hq
  go_upto_region 7 with (fail)
  rw [hw4h.out, hq0.out]
  clear k1 k2 k4 k5 k6 hw4h hq0
  go_loopw [7, 37] (fun v7 v37 wr => EcRel wA no fi kd q v7 v37 wr) (fun _ v37 _ => 5 - (intOf v37).toNat)
  case atStart => exact ⟨0, by omega, rfl, by rw [show be5 no fi 0 = [] by unfold be5; rfl, List.append_nil]; exact hv4h.out, hB4h.out, hq4h.out⟩
  case round =>
    clear hv4h hB4h hq4h
    obtain ⟨j, hj, rfl, hv, hB, hq⟩ := hrel
    by_cases h : j < 5
    · have i1 : (j : Int) < 5 := by omega
      obtain ⟨x, hx⟩ := w5_get no fi j h
      have hc := w5_cell hq hx
      have hfin : Hid (∀ v' w', VAt w' wr.heap.size 5 1 v' (4 + 4 * j + 4) (bytesOf (be2 17003 ++ [kd, 0] ++ be5 no fi j) ++ bytesOf (be4 x)) → Below wr.heap.size wr w' → EcRel wA no fi kd q v' (.int .i64 ((j + 1 : Nat) : Int)) w') := hide (fun v' w' h1 h2 => ⟨j + 1, by omega, rfl, by
        rw [be5_step no fi j x hx, ← List.append_assoc, bytesOf_app]
        exact h1.base hB.size, hB.trans (h2.mono hB.size), (h2.block _ (Array.getElem?_eq_some_iff.1 hq).1).trans hq⟩)
      have hvh := Lib.hid hv
      clear hv hB hq hx
      go_wp2_with fail
      refine (v_put32 _ (4 + 4 * j) _ x _ wr hvh.out (by omega)).mono ?_
      rintro _ w6 ⟨v6, rfl, hv6, hB6⟩
      rw [be4_len] at hv6
      have hR := Lib.hid (hfin.out v6 w6 hv6 hB6)
      clear hv6 hB6 hfin hvh hc
      go_wp2_with fail
      refine ⟨?_, ?_⟩
      rotate_left
      · simp [intOf]; omega
      first
        | exact hR.out
        | (repeat (apply Exists.intro)
           exact ⟨hR.out, rfl⟩)
    · obtain rfl : j = 5 := by omega
      clear h hj
      have i1 : decide (((5 : Nat) : Int) < 5) = false := by decide
      have hqh := Lib.hid hq
      have hvh := Lib.hid hv
      have hBh := Lib.hid hB
      clear hq hv hB
      go_upto_region 11 with (fail)
      obtain ⟨_, _, _, _, _, _, _, k7, k8, k9, _⟩ := dg_cl (hS.out _ hBh.out)
      obtain ⟨v7, w7, hr7, hv7, hB7⟩ := app_lit (by have h := hvh.out; rw [show 4 + 4 * 5 = 24 from rfl] at h; exact h) hBh.out.size [(K : Int), (m : Int), (i : Int)] 3 rfl (by omega) 71
      have hr7h := Lib.hid hr7
      have hv7h := Lib.hid hv7
      have hB7h := Lib.hid (hBh.out.trans hB7)
      have hne : w.heap.size ≠ wr.heap.size := by have := hBh.out.size; omega
      clear hr7 hv7 hB7 hvh hBh hqh
      go_upto_region 12 with (at_builtin; refine wpList_app_runV rfl (.tmp 45) (.tmp 55) _ _ rfl rfl rfl hr7h.out ?_)
      clear hr7h hne k7 k8 k9
      obtain ⟨_, _, _, _, _, _, _, _, _, _, k10⟩ := dg_cl (hS.out _ hB7h.out)
      go_wp2_with fail
      refine (v_put16 _ 27 _ 2 _ w7 hv7h.out (by omega)).mono ?_
      rintro _ w8 ⟨v8, rfl, hv8, hB8⟩
      rw [be2_len, ← bytesOf_app] at hv8
      have hv8h := Lib.hid (hv8.base hB7h.out.size)
      have hB8h := Lib.hid (hB7h.out.trans (hB8.mono hB7h.out.size))
      clear hv8 hB8 hv7h hB7h k10
      obtain ⟨_, _, _, _, _, _, _, _, _, _, k10⟩ := dg_cl (hS.out _ hB8h.out)
      have hr8 : BRow w8 g 2 f := hrA.out.below hB8h.out hrA.out.lt
      obtain ⟨v9, w9, hr9, hv9, hB9⟩ := app_row hv8h.out hB8h.out.size [((f 0 : Nat) : Int), ((f 1 : Nat) : Int)] 2 c g 0 rfl (fun j x hj => by
        rcases j with _ | _ | j
        · cases hj; exact FRow.cell hr8 0 (by omega)
        · cases hj; exact FRow.cell hr8 1 (by omega)
        · simp at hj) (by omega) 71
      have hr9h := Lib.hid hr9
      have hB9h := Lib.hid (hB8h.out.trans hB9)
      obtain ⟨b9, o9, c9, rfl, _⟩ := hv9.ptr (by omega)
      have hv9h := Lib.hid hv9
      clear hr9 hv9 hB9 hv8h hB8h hr8
      go_upto_region 13 with (fail)
      go_wp2_with (at_builtin; refine wpList_app_runV rfl (.tmp 64) (.tmp 66) _ _ rfl rfl rfl hr9h.out ?_)
      have hv9' := hv9h.out
      rw [hlh.out] at hv9'
      have hln := hlnh.out
      clear hv9h
      have hsl := c_seal t T b9 o9 c9 _ l w9 ((hB9h.out.block t (Array.getElem?_eq_some_iff.1 hTA.out).1).trans hTA.out) (by rw [hln]; exact hv9') (by omega)
      rw [hln] at hsl
      refine hsl.mono ?_
      clear hr9h hsl
      rintro _ w10 ⟨v10, rfl, hv10, hB10⟩
      have hend : Hid (EncPost w (l ++ le4 (sumF T l)) (.returned (.tuple #[v10, .int .i64 0])) w10) := hide ⟨v10, rfl, hv10.base (Nat.le_trans hBA.out.size hB9h.out.size), (hBA.out.trans (hB9h.out.mono hBA.out.size)).trans (hB10.mono (Nat.le_trans hBA.out.size hB9h.out.size))⟩
      clear hv10 hB10 hv9'
      go_wp2_with fail
      go_ret2
      exact hend.out
end Go.Proofs.Ytmfagdbocidfjaa
