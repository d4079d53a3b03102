import Derived.Test.YtmfagdbocidfjaaV34
/- Bytes taken one behind the other. Conditions: what the blocks hold. -/
namespace Go.Proofs.Ytmfagdbocidfjaa
open Go.RowKit
/-- a reader's block r and the bytes that it has ahead -/
def RdW (w : World) (r b o cap : Nat) (l : List Nat) : Prop := w.heap[r]? = some (.cells #[.slice (some ⟨b, o, none⟩) l.length cap] 130 (0, 0)) ∧ SlN .u8 w (some ⟨b, o, none⟩) l ∧ b ≠ r ∧ l.length ≤ cap ∧ cap ≤ maxLen ∧ ∀ x ∈ l, x < 256
def TkPost (w : World) (r b o cap : Nat) (p l : List Nat) (e : Ending) (w' : World) : Prop := e = .returned (.int .u64 (getN p : Nat)) ∧ RdW w' r b (o + p.length) (cap - p.length) l ∧ w.grownBy w' (some r)
set_option maxRecDepth 100000 in
theorem cell_setCell_ne (w : World) (r k b o : Nat) (v : Value) (h : b ≠ r) (hb : b < w.heap.size) : (w.setCell ⟨r, k, none⟩ v).cell? ⟨b, o, none⟩ = w.cell? ⟨b, o, none⟩ := by
  have h1 := (only_set (only_refl w (some r)) k v).block b hb (fun e => h (Option.some.inj e))
  simp only [World.cell?, h1]
set_option maxRecDepth 100000 in
set_option maxHeartbeats 4000000 in
theorem wi_take (r b o cap n : Nat) (p l : List Nat) (w : World) (h : RdW w r b o cap (p ++ l)) (hn : p.length = n) (h8 : n ≤ 8) (hl : 0 < l.length) :
    Calls Try.prog 55 #[.pointer (some ⟨r, 0, none⟩), .int .i64 (n : Nat)] w (TkPost w r b o cap p l) := by
  obtain ⟨hr, hs, hbr, hlc, hcm, hx⟩ := h
  have hcm2 : cap ≤ 9223372036854775807 := by unfold maxLen at hcm; omega
  have c0 := (cell_of_block hr).trans (show #[Value.slice (some ⟨b, o, none⟩) (p ++ l).length cap][0]? = some _ from rfl)
  have fr0 := frozen_of_row w r 0 _ _ hr
  have hsp : SlN .u8 w (some ⟨b, o, none⟩) p := fun i x hi => hs i x (by rw [List.getElem?_append_left (List.getElem?_eq_some_iff.1 hi).1]; exact hi)
  have hsl : SlN .u8 w (some ⟨b, o + n, none⟩) l := fun i x hi => by
    obtain ⟨b', o', e, hc⟩ := hs (n + i) x (by rw [List.getElem?_append_right (by omega), show n + i - p.length = i by omega]; exact hi)
    cases e
    exact ⟨b, o + n, rfl, by rw [Nat.add_assoc]; exact hc⟩
  rw [List.length_append, hn] at hr hlc c0
  obtain ⟨m, hm⟩ : ∃ m, l.length = m := ⟨_, rfl⟩
  rw [hm] at hr hlc c0 hl
  have hget := Lib.hid (w_get (some ⟨b, o, none⟩) cap p w hsp (fun x hp => hx x (List.mem_append_left _ hp)) (by omega) (by omega))
  rw [hn, List.take_of_length_le (by omega)] at hget
  have hw' : Hid (TkPost w r b o cap p l (.returned (.int .u64 (getN p : Nat))) (w.setCell ⟨r, 0, none⟩ (.slice (some ⟨b, o + n, none⟩) m (cap - n)))) := hide ⟨rfl, ⟨by
    rw [hn, hm]
    exact blk_set hr 0 _, by
    rw [hn]
    intro i x hi
    obtain ⟨b', o', e, hc⟩ := hsl i x hi
    cases e
    refine ⟨b, o + n, rfl, ?_⟩
    rw [← hc]
    exact cell_setCell_ne w r 0 b _ _ hbr (cell_block_lt hc), hbr, by omega, by unfold maxLen at *; omega, fun x hp => hx x (List.mem_append_right _ hp)⟩, only_set (only_refl w (some r)) 0 _⟩
  have d1 : (n : Int) ≤ (cap : Int) := by omega
  have d2 : (n : Int) < (cap : Int) := by omega
  have d3 : n ≤ cap := by omega
  have d4 : n < cap := by omega
  have d5 : n ≤ n + m := by omega
  have d6 : n + m - n = m := by omega
  clear hs hsp hsl hx hr hn hm
  go_enter Try.func55, Try.ntmps55
  go_wp2_with fail
  refine hget.out.mono ?_
  rintro _ w2 ⟨rfl, rfl⟩
  go_wp2_with fail
  go_ret
  exact hw'.out
end Go.Proofs.Ytmfagdbocidfjaa

/- Bytes taken one behind the other, and a datagram filled with them: what stays. Lemmas alone. -/
namespace Go.Proofs.Ytmfagdbocidfjaa
open Go.RowKit
/-- a reader in a block of one's own -/
def DrAt (w0 w : World) (r b : Nat) (l : List Nat) : Prop := (∃ o cap, RdW w r b o cap l) ∧ w0.heap.size ≤ r ∧ Below w0.heap.size w0 w
set_option maxRecDepth 100000 in
theorem RdW.rlt {w : World} {r b o cap : Nat} {l : List Nat} (h : RdW w r b o cap l) : r < w.heap.size := (Array.getElem?_eq_some_iff.1 h.1).1
set_option maxRecDepth 100000 in
theorem RdW.below {w w' : World} {r b o cap : Nat} {l : List Nat} (h : RdW w r b o cap l) (hb : Below w.heap.size w w') : RdW w' r b o cap l :=
  ⟨(hb.block _ h.rlt).trans h.1, h.2.1.below hb, h.2.2⟩
set_option maxRecDepth 100000 in
theorem dr_take (r b n : Nat) (p l : List Nat) (v : Nat) (w0 w : World) (h : DrAt w0 w r b (p ++ l)) (hn : p.length = n) (h8 : n ≤ 8) (hl : 0 < l.length) (hv : getN p = v) :
    Calls Try.prog 55 #[.pointer (some ⟨r, 0, none⟩), .int .i64 (n : Nat)] w (fun e w' => e = .returned (.int .u64 (v : Nat)) ∧ DrAt w0 w' r b l ∧ w.grownBy w' (some r)) := by
  obtain ⟨⟨o, cap, hR0⟩, hr0, hB0⟩ := h
  refine (wi_take r b o cap n p l w hR0 hn h8 hl).mono ?_
  rintro e w' ⟨rfl, hR, hg⟩
  rw [hn] at hR
  exact ⟨by rw [hv], ⟨⟨_, _, hR⟩, hr0, below_grown hB0 (Nat.le_refl _) hg (fun p hp => by cases hp; exact hr0)⟩, hg⟩
/-- a datagram besides -/
def DcAt (w0 w : World) (r b : Nat) (l : List Nat) (d : Nat) (C : Array Value) : Prop := DrAt w0 w r b l ∧ w.heap[d]? = some (.cells C 73 (0, 0)) ∧ d ≠ r ∧ b ≠ d ∧ w0.heap.size ≤ d
set_option maxRecDepth 100000 in
theorem dc_take (r b n : Nat) (p l : List Nat) (v d : Nat) (C : Array Value) (w0 w : World) (h : DcAt w0 w r b (p ++ l) d C) (hn : p.length = n) (h8 : n ≤ 8) (hl : 0 < l.length) (hv : getN p = v) :
    Calls Try.prog 55 #[.pointer (some ⟨r, 0, none⟩), .int .i64 (n : Nat)] w (fun e w' => e = .returned (.int .u64 (v : Nat)) ∧ DcAt w0 w' r b l d C) := by
  refine (dr_take r b n p l v w0 w h.1 hn h8 hl hv).mono ?_
  rintro e w' ⟨rfl, hR, hg⟩
  exact ⟨rfl, hR, (hg.block d (Array.getElem?_eq_some_iff.1 h.2.1).1 (fun e => h.2.2.1 (Option.some.inj e))).trans h.2.1, h.2.2⟩
set_option maxRecDepth 100000 in
theorem DcAt.set {w0 w : World} {r b : Nat} {l : List Nat} {d : Nat} {C : Array Value} (h : DcAt w0 w r b l d C) (k : Nat) (v : Value) : DcAt w0 (w.setCell ⟨d, k, none⟩ v) r b l d (C.setIfInBounds k v) := by
  obtain ⟨⟨⟨o, cap, h1, h2, h3, h4⟩, h5, h6⟩, h7, h8, h9, h10⟩ := h
  have hg := only_set (only_refl w (some d)) k v
  refine ⟨⟨⟨o, cap, (hg.block r (Array.getElem?_eq_some_iff.1 h1).1 (fun e => h8 (Option.some.inj e).symm)).trans h1, fun i x hi => ?_, h3, h4⟩, h5, below_grown h6 (Nat.le_refl _) hg (fun p hp => by cases hp; exact h10)⟩, blk_set h7 k v, h8, h9, h10⟩
  obtain ⟨b', o', e, hc⟩ := h2 i x hi
  cases e
  exact ⟨b, o, rfl, (cell_setCell_ne w d k b _ v h9 (cell_block_lt hc)).trans hc⟩
set_option maxRecDepth 100000 in
theorem DcAt.cl {w0 w : World} {r b : Nat} {l : List Nat} {d : Nat} {C : Array Value} (h : DcAt w0 w r b l d C) (k : Nat) {v : Value} (hk : C[k]? = some v) : w.cell? ⟨d, k, none⟩ = some v := (cell_of_block h.2.1).trans hk
set_option maxRecDepth 100000 in
theorem DcAt.fz {w0 w : World} {r b : Nat} {l : List Nat} {d : Nat} {C : Array Value} (h : DcAt w0 w r b l d C) (k : Nat) : w.frozen? ⟨d, k, none⟩ = false := frozen_of_row w d k _ _ h.2.1
end Go.Proofs.Ytmfagdbocidfjaa

/- A shard's datagram, of its bytes. Conditions: what the blocks hold. -/
namespace Go.Proofs.Ytmfagdbocidfjaa
open Go.RowKit
def be4N (x : Nat) : List Nat := [x / 16777216 % 256, x / 65536 % 256, x / 256 % 256, x % 256]
/-- the same bytes as numbers from 0 on -/
def wireN (no fi kd K m i x y : Nat) : List Nat := [66, 107] ++ ([kd] ++ ([0] ++ ([0, 0, 0, 0] ++ ([0, 0, 0, 0] ++ ([0, 0, 0, 0] ++ (be4N no ++ (be4N fi ++ ([K] ++ ([m] ++ ([i] ++ ([0, 2] ++ [x, y])))))))))))
set_option maxRecDepth 100000 in
theorem be4N_get (x : Nat) (h : x < 4294967296) : getN (be4N x) = x := by
  unfold be4N
  simp [getN]
  omega
set_option maxRecDepth 100000 in
theorem be4N_len (x : Nat) : (be4N x).length = 4 := rfl
set_option maxRecDepth 100000 in
theorem be4_cast (x : Nat) : be4 (x : Int) = (be4N x).map fun (n : Nat) => (n : Int) := by unfold be4 be4N; simp
set_option maxRecDepth 100000 in
theorem wire_cast (no fi kd K m i : Nat) (f : Nat → Nat) (hk : dgK K i = (kd : Int)) : wireF (no : Nat) (fi : Nat) K m i f = (wireN no fi kd K m i (f 0) (f 1)).map fun (n : Nat) => (n : Int) := by
  unfold wireF wireN
  rw [hk]
  have h0 : be4 0 = [0, 0, 0, 0] := rfl
  have h5 : be5 (no : Int) (fi : Int) 5 = be4 0 ++ (be4 0 ++ (be4 0 ++ (be4 no ++ be4 fi))) := by unfold be5 w5; simp
  have h2 : be2 17003 = [66, 107] := rfl
  have h3 : be2 2 = [0, 2] := rfl
  rw [h5, h0, h2, h3, be4_cast, be4_cast]
  simp
set_option maxRecDepth 100000 in
theorem wireN_len (no fi kd K m i x y : Nat) : (wireN no fi kd K m i x y).length = 31 := rfl
set_option maxRecDepth 100000 in
theorem wireN_lt (no fi kd K m i x y : Nat) (h1 : kd < 256) (h2 : K < 256) (h3 : m < 256) (h4 : i < 256) (h5 : x < 256) (h6 : y < 256) : ∀ n ∈ wireN no fi kd K m i x y, n < 256 := by
  intro n hn
  unfold wireN be4N at hn
  simp at hn
  omega
set_option maxRecDepth 100000 in
theorem sln_of_v {W : World} {lo n b o cap : Nat} {l : List Nat} (h : VAt W lo 5 1 (.slice (some ⟨b, o, none⟩) n cap) n (bytesOf (l.map fun (n : Nat) => (n : Int)))) : SlN .u8 W (some ⟨b, o, none⟩) l := fun i x hi =>
  ⟨b, o, rfl, h.cells rfl i _ (by unfold bytesOf; rw [List.getElem?_map, List.getElem?_map, hi]; rfl)⟩
set_option maxRecDepth 100000 in
theorem g1 (x : Nat) : getN [x] = x := by simp [getN]
set_option maxRecDepth 100000 in
theorem g4 : getN [0, 0, 0, 0] = 0 := by simp [getN]
set_option maxRecDepth 100000 in
theorem g2 : getN [0, 2] = 2 := by simp [getN]
set_option maxRecDepth 100000 in
theorem gm : getN [66, 107] = 17003 := by simp [getN]
attribute [local irreducible] blk wLoad wLoadRes loadAns wStore wStoreRes storeAns Plain sumF be4N getN
attribute [local go_sem ↓] ld_d0 sto_d0
attribute [local go_sem] ld_d sto_d loadAns_some storeAns_some dg_size dg_plain blk_alloc_if blk_setRow_if blk_drew_at blk_drewN_at rowPut_some blk_setCell_if cellPut_some
set_option maxRecDepth 100000 in
set_option maxHeartbeats 4000000 in
theorem wi_decode (t : Nat) (T : Nat → Int) (b off cap lo s no fi kd K m i : Nat) (f : Nat → Nat) (w : World) (h : TbAt w t T) (hs : sumF T (wireF (no : Nat) (fi : Nat) K m i f) = (s : Int)) (hs4 : s < 4294967296) (hl : VAt w lo 5 1 (.slice (some ⟨b, off, none⟩) 35 cap) 35 (bytesOf (wireF (no : Nat) (fi : Nat) K m i f ++ le4 s)))
    (hkd : dgK K i = (kd : Int)) (hK1 : 1 ≤ K) (hK : K ≤ 16) (hm : m ≤ 16) (hi : i < K + m) (hno : no < 4294967296) (hfi : fi < 4294967296) (hx : f 0 < 256) (hy : f 1 < 256) :
    Calls Try.prog 24 #[.pointer (some ⟨t, 0, none⟩), .int .u32 0, .slice (some ⟨b, off, none⟩) 35 cap] w (DgPost w (no : Nat) (fi : Nat) K m i f) := by
  have hkb : kd < 256 := by unfold dgK at hkd; split at hkd <;> omega
  have hz := zeroDG
  have hchk := Lib.hid (fun g c W => wi_check (no : Nat) (fi : Nat) K m i g c W hK1 hK hm hi)
  have hwc := wire_cast no fi kd K m i f hkd
  have hln : (wireF (no : Nat) (fi : Nat) K m i f).length = 31 := by rw [hwc, List.length_map, wireN_len]
  have w1K : IntKind.i64.wrap (K : Int) = (K : Int) := IntWalk.i64_in _ (by omega)
  have w1m : IntKind.i64.wrap (m : Int) = (m : Int) := IntWalk.i64_in _ (by omega)
  have w1i : IntKind.i64.wrap (i : Int) = (i : Int) := IntWalk.i64_in _ (by omega)
  have w1k : IntKind.i64.wrap (kd : Int) = (kd : Int) := IntWalk.i64_in _ (by omega)
  have w1n : IntKind.u32.wrap (no : Int) = (no : Int) := IntWalk.u32_in _ (by omega)
  have w1f : IntKind.u32.wrap (fi : Int) = (fi : Int) := IntWalk.u32_in _ (by omega)
  have hg4n := Lib.hid (be4N_get no hno)
  have hg4f := Lib.hid (be4N_get fi hfi)
  have hlt := Lib.hid (wireN_lt no fi kd K m i (f 0) (f 1) hkb (by omega) (by omega) (by omega) hx hy)
  obtain ⟨w0, hw0⟩ : ∃ w0, w.alloc (.cells #[.int .i64 0, .int .u32 0, .int .u32 0, .int .i64 0, .int .u32 0, .int .u32 0, .int .u32 0, .int .i64 0, .int .i64 0, .int .i64 0, .slice none 0 0] 73) = w0 := ⟨_, rfl⟩
  have hB0 : Below w.heap.size w w0 := hw0 ▸ (Below.refl _ _).alloc (Nat.le_refl _) _
  have hp0 : Hid (w0.heap[w.heap.size]? = some (.cells #[.int .i64 0, .int .u32 0, .int .u32 0, .int .i64 0, .int .u32 0, .int .u32 0, .int .u32 0, .int .i64 0, .int .i64 0, .int .i64 0, .slice none 0 0] 73 (0, 0))) := hide (hw0 ▸ Array.getElem?_push_size (xs := w.heap))
  have hopen := Lib.hid (c_open t T b off cap lo s 31 (wireF (no : Nat) (fi : Nat) K m i f) w0 ((hB0.block t (Array.getElem?_eq_some_iff.1 h).1).trans h) hs hs4 (hl.below hB0) hln (by omega))
  unfold dgV at hchk
  rw [hkd] at hchk
  rw [hwc] at hopen
  have hw0h := Lib.hid hw0
  have hB0h := Lib.hid hB0
  have hkdh := Lib.hid hkd
  clear h hs hs4 hl hK1 hK hm hi hno hfi hx hy hkd hkb hwc hln hw0 hB0
  go_enter Try.func24, Try.ntmps24
  go_upto_region 1 with (fail)
  rw [hw0h.out]
  go_upto_region 5 with (fail)
  go_wp2_with fail
  refine hopen.out.mono ?_
  rintro _ w1 ⟨v1, rfl, hv1, hB1⟩
  rw [List.length_map, wireN_len] at hv1
  obtain ⟨b1, o1, c1, rfl, hb1⟩ := hv1.ptr (by omega)
  obtain ⟨a2, c2, e2, hc1, hc2⟩ := hv1.form
  cases e2
  have hb1lt := hv1.blt b1 rfl
  obtain ⟨r, hrq⟩ : ∃ r, w1.heap.size = r := ⟨_, rfl⟩
  obtain ⟨w2, hw2⟩ : ∃ w2, w1.alloc (.cells #[.slice (some ⟨b1, o1, none⟩) 31 c1] 130) = w2 := ⟨_, rfl⟩
  have hB2 : Below w0.heap.size w0 w2 := hw2 ▸ hB1.alloc hB1.size _
  have hB12 : Below w1.heap.size w1 w2 := hw2 ▸ (Below.refl _ _).alloc (Nat.le_refl _) _
  have hRW : RdW w2 r b1 o1 c1 (wireN no fi kd K m i (f 0) (f 1)) := ⟨by rw [wireN_len, ← hw2, ← hrq]; exact Array.getElem?_push_size (xs := w1.heap), sln_of_v (hv1.below hB12), by omega, by rw [wireN_len]; exact hc1, hc2, hlt.out⟩
  have hR2 : Hid (DrAt w0 w2 r b1 ([66, 107] ++ ([kd] ++ ([0] ++ ([0, 0, 0, 0] ++ ([0, 0, 0, 0] ++ ([0, 0, 0, 0] ++ (be4N no ++ (be4N fi ++ ([K] ++ ([m] ++ ([i] ++ ([0, 2] ++ [f 0, f 1])))))))))))) ) := hide ⟨⟨o1, c1, hRW⟩, by rw [← hrq]; exact hB1.size, hB2⟩
  have hw2h := Lib.hid hw2
  have hrqh := Lib.hid hrq
  have hb1h := Lib.hid hb1
  have hb1r : Hid (b1 < r) := hide (by omega)
  have hr0h : Hid (w0.heap.size ≤ r) := hide (by rw [← hrq]; exact hB1.size)
  clear hopen hRW hv1 hc1 hc2 hB1 hB2 hB12 hw2 hrq hlt hb1 hb1lt
  go_upto_region 9 with (fail)
  rw [hw2h.out, hrqh.out]
  clear hw2h hrqh
  go_wp2_with fail
  refine (dr_take r b1 2 [66, 107] _ 17003 w0 w2 hR2.out rfl (by omega) (by simp) gm).mono ?_
  rintro _ w3 ⟨rfl, hR, _⟩
  have hR3 := Lib.hid hR
  clear hR hR2
  go_wp2_with fail
  refine (dr_take r b1 1 [kd] _ kd w0 w3 hR3.out rfl (by omega) (by simp) (g1 kd)).mono ?_
  rintro _ w4 ⟨rfl, hR, _⟩
  have hR4 := Lib.hid hR
  clear hR hR3
  go_wp2_with fail
  refine (dr_take r b1 1 [0] _ 0 w0 w4 hR4.out rfl (by omega) (by simp) (g1 0)).mono ?_
  rintro _ w5 ⟨rfl, hR, _⟩
  have hR5 := Lib.hid hR
  clear hR hR4
  go_wp2_with fail
  refine (dr_take r b1 4 [0, 0, 0, 0] _ 0 w0 w5 hR5.out rfl (by omega) (by simp) g4).mono ?_
  rintro _ w6 ⟨rfl, hR, _⟩
  have hR6 := Lib.hid hR
  clear hR hR5
  have u0 : IntKind.u32.wrap 0 = 0 := rfl
  have u1 : IntKind.i64.wrap 0 = 0 := rfl
  have u2 : IntKind.i64.wrap 2 = 2 := rfl
  have u3 : IntKind.u32.signed = false := rfl
  obtain ⟨d, hd⟩ : ∃ d, w6.heap.size = d := ⟨_, rfl⟩
  obtain ⟨w7, hw7⟩ : ∃ w7, (w6.alloc (.cells #[.int .i64 0, .int .u32 0, .int .u32 0, .int .i64 0, .int .u32 0, .int .u32 0, .int .u32 0, .int .i64 0, .int .i64 0, .int .i64 0, .slice none 0 0] 73)).setRow w6.heap.size #[.int .i64 (kd : Nat), .int .u32 0, .int .u32 0, .int .i64 0, .int .u32 0, .int .u32 0, .int .u32 0, .int .i64 0, .int .i64 0, .int .i64 0, .slice none 0 0] = w7 := ⟨_, rfl⟩
  have hw7h := Lib.hid hw7
  have hX7 : Hid (DcAt w0 w7 r b1 ([0, 0, 0, 0] ++ ([0, 0, 0, 0] ++ (be4N no ++ (be4N fi ++ ([K] ++ ([m] ++ ([i] ++ ([0, 2] ++ [f 0, f 1])))))))) d #[.int .i64 (kd : Nat), .int .u32 0, .int .u32 0, .int .i64 0, .int .u32 0, .int .u32 0, .int .u32 0, .int .i64 0, .int .i64 0, .int .i64 0, .slice none 0 0]) := hide (by
    obtain ⟨⟨o6, c6, hR⟩, h5, h6⟩ := hR6.out
    have hlt6 := hR.rlt
    have hBz : Below w6.heap.size w6 w7 := hw7 ▸ below_setRow ((Below.refl _ _).alloc (Nat.le_refl _) _) (Nat.le_refl _) _
    refine ⟨⟨⟨o6, c6, hR.below hBz⟩, h5, h6.trans (hBz.mono h6.size)⟩, ?_, by omega, by have := hb1r.out; omega, by have := h6.size; omega⟩
    rw [← hw7, ← hd]
    exact setRow_heap _ _ _ _ _ _ (Array.getElem?_push_size (xs := w6.heap)))
  have hdh := Lib.hid hd
  clear hw7 hR6 hd
  go_upto_region 11 with (fail)
  rw [hw7h.out, hdh.out]
  clear hw7h hdh
  have c1 := hX7.out.cl 1 rfl
  go_wp2_with fail
  refine (dc_take r b1 4 [0, 0, 0, 0] _ 0 d _ w0 _ hX7.out rfl (by omega) (by simp [be4N_len]) g4).mono ?_
  rintro _ w8 ⟨rfl, hX⟩
  have hX8 := Lib.hid hX
  clear hX hX7 c1
  go_wp2_with fail
  refine (dc_take r b1 4 [0, 0, 0, 0] _ 0 d _ w0 _ hX8.out rfl (by omega) (by simp [be4N_len]) g4).mono ?_
  rintro _ w9 ⟨rfl, hX⟩
  have hX9 := Lib.hid hX
  clear hX hX8
  have q2 := hX9.out.cl 2 rfl
  have z2 := hX9.out.fz 2
  have q4 := hX9.out.cl 4 rfl
  have z4 := hX9.out.fz 4
  go_wp2_with fail
  refine (dc_take r b1 4 (be4N no) _ no d _ w0 _ ((hX9.out.set 2 (.int .u32 0)).set 4 (.int .u32 0)) (be4N_len no) (by omega) (by simp) hg4n.out).mono ?_
  rintro _ w10 ⟨rfl, hX⟩
  have hX10 := Lib.hid hX
  clear hX hX9 q2 q4 z2 z4
  go_wp2_with fail
  refine (dc_take r b1 4 (be4N fi) _ fi d _ w0 _ hX10.out (be4N_len fi) (by omega) (by simp) hg4f.out).mono ?_
  rintro _ w11 ⟨rfl, hX⟩
  have hX11 := Lib.hid hX
  clear hX hX10
  have q5 := hX11.out.cl 5 rfl
  have z5 := hX11.out.fz 5
  have q6 := hX11.out.cl 6 rfl
  have z6 := hX11.out.fz 6
  go_wp2_with fail
  refine (dc_take r b1 1 [K] _ K d _ w0 _ ((hX11.out.set 5 (.int .u32 (no : Nat))).set 6 (.int .u32 (fi : Nat))) rfl (by omega) (by simp) (g1 K)).mono ?_
  rintro _ w12 ⟨rfl, hX⟩
  have hX12 := Lib.hid hX
  clear hX hX11 q5 q6 z5 z6
  go_wp2_with fail
  refine (dc_take r b1 1 [m] _ m d _ w0 _ hX12.out rfl (by omega) (by simp) (g1 m)).mono ?_
  rintro _ w13 ⟨rfl, hX⟩
  have hX13 := Lib.hid hX
  clear hX hX12
  go_wp2_with fail
  refine (dc_take r b1 1 [i] _ i d _ w0 _ hX13.out rfl (by omega) (by simp) (g1 i)).mono ?_
  rintro _ w14 ⟨rfl, hX⟩
  have hX14 := Lib.hid hX
  clear hX hX13
  have q7 := hX14.out.cl 7 rfl
  have z7 := hX14.out.fz 7
  have q8 := hX14.out.cl 8 rfl
  have z8 := hX14.out.fz 8
  have q9 := hX14.out.cl 9 rfl
  have z9 := hX14.out.fz 9
  go_wp2_with fail
  refine (dc_take r b1 2 [0, 2] _ 2 d _ w0 _ (((hX14.out.set 7 (.int .i64 (K : Nat))).set 8 (.int .i64 (m : Nat))).set 9 (.int .i64 (i : Nat))) rfl (by omega) (by simp) g2).mono ?_
  rintro _ w15 ⟨rfl, hX⟩
  have hX15 := Lib.hid hX
  clear hX hX14 q7 q8 q9 z7 z8 z9
  obtain ⟨⟨⟨o15, c15, hR15⟩, hr15, hB15⟩, hd15, hdr, hbd, hd0⟩ := hX15.out
  have hdblk : w15.heap[d]? = some (.cells #[.int .i64 (kd : Nat), .int .u32 0, .int .u32 0, .int .i64 0, .int .u32 0, .int .u32 (no : Nat), .int .u32 (fi : Nat), .int .i64 (K : Nat), .int .i64 (m : Nat), .int .i64 (i : Nat), .slice none 0 0] 73 (0, 0)) := hd15
  have hdlt := (Array.getElem?_eq_some_iff.1 hdblk).1
  have hsr := hR15.2.1
  have rr := (cell_of_block hR15.1).trans (show #[Value.slice (some ⟨b1, o15, none⟩) [f 0, f 1].length c15][0]? = some (.slice (some ⟨b1, o15, none⟩) 2 c15) from rfl)
  have hB15h := Lib.hid hB15
  have hne := hR15.rlt
  have hner : r ≠ w15.heap.size := by omega
  have hBn : Below w0.heap.size w0 (w15.alloc (.cells #[] 5)) := hB15.alloc hB15.size _
  have hBn15 : Below w15.heap.size w15 (w15.alloc (.cells #[] 5)) := (Below.refl _ _).alloc (Nat.le_refl _) _
  have rr2 := (hBn15.cell (p := ⟨r, 0, none⟩) hR15.rlt).trans rr
  have hown : OwnZ (w15.alloc (.cells #[] 5)) w15.heap.size 5 .u8 (.slice (some ⟨w15.heap.size, 0, none⟩) 0 0) 0 (fun _ => 0) := World.ownsRow_lit (base := w15.heap.size) (e := 5) (size := 1) w15 #[] 0 (Nat.le_refl _) (by unfold maxLen; omega) rfl
  have hsl : ZAt (w15.alloc (.cells #[] 5)) .u8 (some ⟨b1, o15, none⟩) 2 (fun j => (f j : Nat)) := fun j hj => by
    rcases j with _ | _ | j
    · exact (hsr.below hBn15) 0 (f 0) rfl
    · exact (hsr.below hBn15) 1 (f 1) rfl
    · omega
  obtain ⟨v', w16, hrn, ho6, hg6, hf6⟩ := run_catZ (P := Try.prog) (S := 71) (T := 5) Try.underlying71 info8 (by decide) (w15.alloc (.cells #[] 5)) _ w15.heap.size 0 (fun _ => 0) hown (some ⟨b1, o15, none⟩) c15 2 (fun j => (f j : Nat)) hsl (fun h => by cases h) (by omega) (by show _ ≤ (w15.heap.push _).size; rw [Array.size_push]; omega) 71
  have hB6 : Hid (Below w0.heap.size w0 w16) := hide (below_grown hBn (Nat.le_refl _) hg6 (fun p hp => by have := (hown.lt p hp).1; have := hB15.size; omega))
  obtain ⟨g, c6, rfl, hg61⟩ : ∃ g6 c6, v' = .slice (some ⟨g6, 0, none⟩) 2 c6 ∧ w15.heap.size ≤ g6 := by
    rcases ho6.2 with ⟨_, h⟩ | ⟨g6, c6, _, h1, h2, _⟩
    · omega
    · exact ⟨g6, c6, h1, h2⟩
  have hr6 : BRow w16 g 2 f := FRow.own (show w16.ownsRow w15.heap.size 5 1 (.slice (some ⟨g, 0, none⟩) 2 c6) 2 (rowZ .u8 2 (catZ 0 (fun _ => 0) (fun j => (f j : Nat)))) from ho6) (fun i hi => by rw [rowZ_get _ _ _ _ hi]; simp [catZ])
  have hd16 : w16.heap[d]? = some (.cells #[.int .i64 (kd : Nat), .int .u32 0, .int .u32 0, .int .i64 0, .int .u32 0, .int .u32 (no : Nat), .int .u32 (fi : Nat), .int .i64 (K : Nat), .int .i64 (m : Nat), .int .i64 (i : Nat), .slice none 0 0] 73 (0, 0)) := (hg6.block d (by have := hBn15.size; omega) (fun e => by have := (hown.lt d e.symm).1; omega)).trans ((hBn15.block d hdlt).trans hdblk)
  obtain ⟨w17, hw17⟩ : ∃ w17, w16.setCell ⟨d, 10, none⟩ (.slice (some ⟨g, 0, none⟩) 2 c6) = w17 := ⟨_, rfl⟩
  have hd17 : w17.heap[d]? = some (.cells #[.int .i64 (kd : Nat), .int .u32 0, .int .u32 0, .int .i64 0, .int .u32 0, .int .u32 (no : Nat), .int .u32 (fi : Nat), .int .i64 (K : Nat), .int .i64 (m : Nat), .int .i64 (i : Nat), .slice (some ⟨g, 0, none⟩) 2 c6] 73 (0, 0)) := by rw [← hw17]; exact blk_set hd16 10 _
  have hg17 : w16.grownBy w17 (some d) := hw17 ▸ only_set (only_refl w16 (some d)) 10 _
  have hB17 : Hid (Below w0.heap.size w0 w17) := hide (below_grown hB6.out (Nat.le_refl _) hg17 (fun p hp => by cases hp; exact hd0))
  have hgd : g ≠ d := by omega
  have hr17 : Hid (BRow w17 g 2 f) := hide (hr6.stay (hg17.block g hr6.lt (fun e => hgd (Option.some.inj e))))
  have hg0 : Hid (w0.heap.size ≤ g) := hide (by have := hB15.size; omega)
  have hrnh := Lib.hid hrn
  have hw17h := Lib.hid hw17
  have hd17h := Lib.hid hd17
  have q10 := (cell_of_block hd16).trans (show #[Value.int .i64 (kd : Nat), .int .u32 0, .int .u32 0, .int .i64 0, .int .u32 0, .int .u32 (no : Nat), .int .u32 (fi : Nat), .int .i64 (K : Nat), .int .i64 (m : Nat), .int .i64 (i : Nat), .slice none 0 0][10]? = some (.slice none 0 0) from rfl)
  have z10 := frozen_of_row w16 d 10 _ _ hd16
  clear hX15 hR15 hr15 hB15 hd15 hdr hbd hd0 hdblk hdlt hsr hne hBn hBn15 hown hsl hrn ho6 hg6 hf6 hr6 hd16 hw17 hd17 hg17 hgd hg61
  go_upto_region 20 with (at_builtin; refine wpList_app_runV rfl (.tmp 96) (.tmp 100) _ _ rfl rfl rfl hrnh.out ?_)
  clear rr rr2 q10 z10 hrnh
  rw [hw17h.out]
  clear hw17h
  have bd := blk_of hd17h.out
  go_wp2_with fail
  refine (hchk.out g c6 w17).mono ?_
  rintro _ w18 ⟨rfl, hB18⟩
  have hd18 := (hB18.block d (Array.getElem?_eq_some_iff.1 hd17h.out).1).trans hd17h.out
  have hB18w : Below w0.heap.size w0 w18 := hB17.out.trans (hB18.mono hB17.out.size)
  have hp18 : w18.heap[w.heap.size]? = some (.cells #[.int .i64 0, .int .u32 0, .int .u32 0, .int .i64 0, .int .u32 0, .int .u32 0, .int .u32 0, .int .i64 0, .int .i64 0, .int .i64 0, .slice none 0 0] 73 (0, 0)) := (hB18w.block _ (Array.getElem?_eq_some_iff.1 hp0.out).1).trans hp0.out
  have hr18 : Hid (BRow w18 g 2 f) := hide (hr17.out.below hB18 hr17.out.lt)
  have hB18h := Lib.hid hB18w
  have hp18h := Lib.hid hp18
  clear bd hB18 hB18w hchk hB17 hr17 hp0
  have bd := blk_of hd18
  have bp := blk_of hp18
  have hplt : w.heap.size < w0.heap.size := by rw [← hw0h.out]; show _ < (w.heap.push _).size; rw [Array.size_push]; omega
  have hB19 : Hid (Below w.heap.size w (w18.setRow w.heap.size #[.int .i64 (kd : Nat), .int .u32 0, .int .u32 0, .int .i64 0, .int .u32 0, .int .u32 (no : Nat), .int .u32 (fi : Nat), .int .i64 (K : Nat), .int .i64 (m : Nat), .int .i64 (i : Nat), .slice (some ⟨g, 0, none⟩) 2 c6])) := hide (below_setRow (hB0h.out.trans (hB18h.out.mono hB0h.out.size)) (Nat.le_refl _) _)
  have hr19 : Hid (BRow (w18.setRow w.heap.size #[.int .i64 (kd : Nat), .int .u32 0, .int .u32 0, .int .i64 0, .int .u32 0, .int .u32 (no : Nat), .int .u32 (fi : Nat), .int .i64 (K : Nat), .int .i64 (m : Nat), .int .i64 (i : Nat), .slice (some ⟨g, 0, none⟩) 2 c6]) g 2 f) := hide (hr18.out.stay (setRow_other _ _ _ _ (by have := hg0.out; omega)))
  have hend : Hid (DgPost w (no : Nat) (fi : Nat) K m i f (.returned (.tuple #[.agg #[.int .i64 (kd : Nat), .int .u32 0, .int .u32 0, .int .i64 0, .int .u32 0, .int .u32 (no : Nat), .int .u32 (fi : Nat), .int .i64 (K : Nat), .int .i64 (m : Nat), .int .i64 (i : Nat), .slice (some ⟨g, 0, none⟩) 2 c6], .int .i64 0])) (w18.setRow w.heap.size #[.int .i64 (kd : Nat), .int .u32 0, .int .u32 0, .int .i64 0, .int .u32 0, .int .u32 (no : Nat), .int .u32 (fi : Nat), .int .i64 (K : Nat), .int .i64 (m : Nat), .int .i64 (i : Nat), .slice (some ⟨g, 0, none⟩) 2 c6])) := hide ⟨g, c6, by rw [hkdh.out], by have := hg0.out; omega, hr19.out, hB19.out⟩
  clear hplt hp18 hd18
  go_wp2_with fail
  refine bodyPost_ret (v := .tuple #[.agg #[.int .i64 (kd : Nat), .int .u32 0, .int .u32 0, .int .i64 0, .int .u32 0, .int .u32 (no : Nat), .int .u32 (fi : Nat), .int .i64 (K : Nat), .int .i64 (m : Nat), .int .i64 (i : Nat), .slice (some ⟨g, 0, none⟩) 2 c6], .int .i64 0]) (results_row_tmp rfl _ _ w.heap.size 73 _ (0, 0) _ _ rfl rfl (setRow_heap _ _ _ _ _ _ hp18h.out) Try.underlying73 rfl dg_info) rfl hend.out
end Go.Proofs.Ytmfagdbocidfjaa
