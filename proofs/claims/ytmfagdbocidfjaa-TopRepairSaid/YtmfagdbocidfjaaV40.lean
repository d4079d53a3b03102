import Derived.Test.YtmfagdbocidfjaaV39
import Derived.BigRegion
/- The window of groups: a shard is taken. Conditions: what the blocks hold; what mend and tell do behind it. -/
namespace Go.Proofs.Ytmfagdbocidfjaa
open Go.RowKit
/-- the shard lies with the others -/
def Took (w : World) (x p base fr fi K m n : Nat) (rdy : Value) (d mm : Int) (I : Nat → Nat) (V : Nat → Nat → Nat) (L : List Value) (y : World) : Prop :=
  ∃ b off cap G cc, WinAt y x p base fr rdy d mm (pq fi K m (.slice (some ⟨b, off, none⟩) (n + 1) cap)) ∧ SdAt y x (.slice (some ⟨b, off, none⟩) (n + 1) cap) (n + 1) I G cc V ∧ VAt y x 34 1 rdy fr L ∧ Below x w y ∧ Kpt w y
set_option maxRecDepth 100000 in
theorem shC_congr (I G c G' c' : Nat → Nat) : ∀ n, (∀ j, j < n → G j = G' j ∧ c j = c' j) → shC I G c n = shC I G' c' n
  | 0, _ => rfl
  | n + 1, h => by
    unfold shC
    rw [shC_congr I G c G' c' n (fun j hj => h j (by omega)), (h n (by omega)).1, (h n (by omega)).2]
set_option maxRecDepth 100000 in
theorem not_own {W : World} {lo sz n b : Nat} {T T' : TypeId} {v : Value} {xs : List Value} (h : VAt W lo T sz v n xs) {C : Array Value} (hb : W.heap[b]? = some (.cells C T' (0, 0))) (hT : T' ≠ T) : some b ≠ v.ownBlock := fun e => by
  obtain ⟨_, C', hC⟩ := h.lt b e.symm
  rw [hb] at hC
  injection hC with hC
  injection hC with _ h3
  exact hT h3
set_option maxRecDepth 100000 in
/-- the four stores ahead -/
theorem WinAt.four {w : World} {x p base fr fi K m n cs o : Nat} {ss : Option Addr} {rdy : Value} {d mm : Int} {q : Nat → Value} (h : WinAt w x p base fr rdy d mm q) (hb : base < 32) (ho : 3 + base * 7 = o) (hq4 : q 4 = .slice ss n cs) (hq5 : q 5 = .slice none 0 0) (hq6 : q 6 = .bool false) :
    WinAt ((((w.setCell ⟨x, o, none⟩ (.bool true)).setCell ⟨x, o + 1, none⟩ (.int .u32 (fi : Nat))).setCell ⟨x, o + 2, none⟩ (.int .i64 (K : Nat))).setCell ⟨x, o + 3, none⟩ (.int .i64 (m : Nat))) x p base fr rdy d mm (pq fi K m (.slice ss n cs)) ∧
      w.grownBy ((((w.setCell ⟨x, o, none⟩ (.bool true)).setCell ⟨x, o + 1, none⟩ (.int .u32 (fi : Nat))).setCell ⟨x, o + 2, none⟩ (.int .i64 (K : Nat))).setCell ⟨x, o + 3, none⟩ (.int .i64 (m : Nat))) (some x) := by
  subst ho
  refine ⟨((((h.put hb 0 (by omega) (.bool true)).put hb 1 (by omega) (.int .u32 (fi : Nat))).put hb 2 (by omega) (.int .i64 (K : Nat))).put hb 3 (by omega) (.int .i64 (m : Nat))).congr (fun j hj => ?_), only_set (only_set (only_set (only_set (only_refl w (some x)) _ _) _ _) _ _) _ _⟩
  rcases j with _ | _ | _ | _ | _ | _ | _ | j
  · rfl
  · rfl
  · rfl
  · rfl
  · exact hq4
  · exact hq5
  · exact hq6
  · omega
set_option maxRecDepth 100000 in
/-- the shard's bytes are copied, and it is put behind the others -/
theorem took_mem (x p base fr fi K m i n g c cs o z : Nat) (ss : Option Addr) (rdy : Value) (d mm : Int) (I G cc f : Nat → Nat) (V : Nat → Nat → Nat) (L : List Value) (w0 w : World) (D : Array Value)
    (hw : WinAt w x p base fr rdy d mm (pq fi K m (.slice ss n cs))) (hb : base < 32) (ho : 3 + base * 7 = o) (hs : SdAt w x (.slice ss n cs) n I G cc V) (hr : VAt w x 34 1 rdy fr L)
    (hd : BRow w g 2 f) (hn : n ≤ 20) (hIn : I n = i) (hV : ∀ t, t < 2 → V n t = f t) (hz : w.heap[z]? = some (.cells D 73 (0, 0))) (h0 : Below x w0 w) (hx0 : x ≤ w0.heap.size) (hk0 : Kpt w0 w) :
    ∃ g6 c6 w6, (Builtin.append_ #[71, 71] 71 #[.slice (some ⟨w.heap.size, 0, none⟩) 0 0, .slice (some ⟨g, 0, none⟩) 2 c]).run Try.prog (w.alloc (.cells #[] 5)) = .ok (.slice (some ⟨g6, 0, none⟩) 2 c6) w6 ∧ Below w.heap.size w w6 ∧
      ∃ b8 o8 c8 W8, (Builtin.append_ #[112, 112] 112 #[.slice ss n cs, .slice (some ⟨w6.heap.size, 0, none⟩) 1 1]).run Try.prog (w6.alloc (.cells #[.int .i64 (i : Nat), .slice (some ⟨g6, 0, none⟩) 2 c6] 139)) = .ok (.slice (some ⟨b8, o8, none⟩) (n + 1) c8) W8 ∧
        W8.cell? ⟨x, o + 4, none⟩ = some (.slice ss n cs) ∧ W8.frozen? ⟨x, o + 4, none⟩ = false ∧ W8.heap[z]? = some (.cells D 73 (0, 0)) ∧ (W8.setCell ⟨x, o + 4, none⟩ (.slice (some ⟨b8, o8, none⟩) (n + 1) c8)).heap[z]? = some (.cells D 73 (0, 0)) ∧
        Took w0 x p base fr fi K m n rdy d mm I V L (W8.setCell ⟨x, o + 4, none⟩ (.slice (some ⟨b8, o8, none⟩) (n + 1) c8)) := by
  have hB5 : Below w.heap.size w (w.alloc (.cells #[] 5)) := (Below.refl _ _).alloc (Nat.le_refl _) _
  have hown : OwnZ (w.alloc (.cells #[] 5)) w.heap.size 5 .u8 (.slice (some ⟨w.heap.size, 0, none⟩) 0 0) 0 (fun _ => 0) := World.ownsRow_lit (base := w.heap.size) (e := 5) (size := 1) w #[] 0 (Nat.le_refl _) (by unfold maxLen; omega) rfl
  have hsl : ZAt (w.alloc (.cells #[] 5)) .u8 (some ⟨g, 0, none⟩) 2 (fun j => (f j : Nat)) := (hd.below hB5 hd.lt).by
  obtain ⟨v', w6, hrn, ho6, hg6, hf6⟩ := run_catZ (P := Try.prog) (S := 71) (T := 5) Try.underlying71 info8 (by decide) (w.alloc (.cells #[] 5)) _ w.heap.size 0 (fun _ => 0) hown (some ⟨g, 0, none⟩) c 2 (fun j => (f j : Nat)) hsl (fun h => by cases h) (by omega) (by show _ ≤ (w.heap.push _).size; rw [Array.size_push]; omega) 71
  have hB6 : Below w.heap.size w w6 := below_grown hB5 (Nat.le_refl _) hg6 (fun p hp => (hown.lt p hp).1)
  obtain ⟨g6, c6, rfl, hg61, hc61, hc62⟩ : ∃ g6 c6, v' = .slice (some ⟨g6, 0, none⟩) 2 c6 ∧ w.heap.size ≤ g6 ∧ 2 ≤ c6 ∧ c6 ≤ maxLen := by
    rcases ho6.2 with ⟨_, h⟩ | ⟨g6, c6, _, h1, h2, _, h3, h4, _⟩
    · omega
    · exact ⟨g6, c6, h1, h2, h3, h4⟩
  have hr6 : BRow w6 g6 2 f := FRow.own (show w6.ownsRow w.heap.size 5 1 (.slice (some ⟨g6, 0, none⟩) 2 c6) 2 (rowZ .u8 2 (catZ 0 (fun _ => 0) (fun j => (f j : Nat)))) from ho6) (fun i hi => by rw [rowZ_get _ _ _ _ hi]; simp [catZ])
  refine ⟨g6, c6, w6, hrn, hB6, ?_⟩
  have hBb : Below w6.heap.size w6 (w6.alloc (.cells #[.int .i64 (i : Nat), .slice (some ⟨g6, 0, none⟩) 2 c6] 139)) := (Below.refl _ _).alloc (Nat.le_refl _) _
  have hlast : (w6.alloc (.cells #[.int .i64 (i : Nat), .slice (some ⟨g6, 0, none⟩) 2 c6] 139)).heap[w6.heap.size]? = some (.cells #[.int .i64 (i : Nat), .slice (some ⟨g6, 0, none⟩) 2 c6] 139 (0, 0)) := Array.getElem?_push_size (xs := w6.heap)
  have hBwb : Below w.heap.size w (w6.alloc (.cells #[.int .i64 (i : Nat), .slice (some ⟨g6, 0, none⟩) 2 c6] 139)) := hB6.trans (hBb.mono hB6.size)
  have hrb := hr6.below hBb hr6.lt
  generalize w6.alloc (.cells #[.int .i64 (i : Nat), .slice (some ⟨g6, 0, none⟩) 2 c6] 139) = wb at *
  have hsb := hs.below hBwb
  have hwb := hw.below hBwb
  have hrdb := hr.below hBwb
  have hzb := (hBwb.block z (Array.getElem?_eq_some_iff.1 hz).1).trans hz
  obtain ⟨v8, W8, hr8, hv8, hg8, hf8, _⟩ := v_app (P := Try.prog) (S := 112) (T := 139) Try.underlying112 info_sd rfl (by decide) (by decide) hsb.1 (Nat.le_of_lt hwb.lt) ⟨w6.heap.size, 0, none⟩ 1 1 [.int .i64 (i : Nat), .slice (some ⟨g6, 0, none⟩) 2 c6] rfl (fun j u hj => by
    rw [Addr.add_lit, cell_of_block hlast, Nat.zero_add]
    rcases j with _ | _ | j
    · exact hj
    · exact hj
    · simp at hj) (fun u hu => by
    rcases List.mem_cons.1 hu with rfl | hu
    · rfl
    · rcases List.mem_cons.1 hu with rfl | hu
      · rfl
      · cases hu) (by omega) 112
  obtain ⟨b8, o8, c8, rfl, hb8⟩ := hv8.ptr (by omega)
  refine ⟨b8, o8, c8, W8, hr8, ?_⟩
  obtain ⟨Cx, hCx⟩ := hwb.type
  have hw8 := hwb.kept (hg8.block x hwb.lt (not_own hsb.1 hCx (by decide)))
  have hz8 := (hg8.block z (Array.getElem?_eq_some_iff.1 hzb).1 (not_own hsb.1 hzb (by decide))).trans hzb
  have hp8 := hw8.part hb
  have hput := hw8.put hb 4 (by omega) (.slice (some ⟨b8, o8, none⟩) (n + 1) c8)
  rw [ho] at hp8 hput
  have hgx := only_set (only_refl W8 (some x)) (o + 4) (.slice (some ⟨b8, o8, none⟩) (n + 1) c8)
  have hx8 : ∀ T, T ≠ 117 → ∀ b, some x = some b → ∃ C T', W8.heap[b]? = some (.cells C T' (0, 0)) ∧ T' ≠ T := fun T hT b hb => by
    cases hb
    obtain ⟨C, hC⟩ := hw8.type
    exact ⟨C, _, hC, fun e => hT e.symm⟩
  have hty : ∀ b, (Value.slice ss n cs).ownBlock = some b → ∃ C T', wb.heap[b]? = some (.cells C T' (0, 0)) ∧ T' = 139 := fun b hb => by
    obtain ⟨_, C, hC⟩ := hsb.1.lt b hb
    exact ⟨C, _, hC, rfl⟩
  have hrd8 : VAt W8 x 34 1 rdy fr L := hrdb.other hg8 (fun b hb => by obtain ⟨C, T', h1, rfl⟩ := hty b hb; exact ⟨C, _, h1, by decide⟩)
  have hzx : z ≠ x := fun e => by
    subst e
    rw [hCx] at hzb
    injection hzb with hzb
    injection hzb with _ h3
    exact absurd h3 (by decide)
  have hsx : shC I G cc n ++ [.int .i64 (i : Nat), .slice (some ⟨g6, 0, none⟩) 2 c6] = shC I (fun j => if j = n then g6 else G j) (fun j => if j = n then c6 else cc j) (n + 1) := by
    have e := shC_congr I G cc (fun j => if j = n then g6 else G j) (fun j => if j = n then c6 else cc j) n (fun j hj => ⟨(if_neg (by omega)).symm, (if_neg (by omega)).symm⟩)
    rw [shC, e, hIn]
    simp
  rw [hsx] at hv8
  have hBf : Below x w0 (W8.setCell ⟨x, o + 4, none⟩ (.slice (some ⟨b8, o8, none⟩) (n + 1) c8)) := below_grown (below_grown (h0.trans (hBwb.mono (Nat.le_of_lt hw.lt))) hx0 hg8 (fun b hb => (hsb.1.lt b hb).1)) hx0 hgx (fun b hb => by cases hb; exact Nat.le_refl _)
  refine ⟨hp8 4 (by omega), hw8.frozen _, hz8, (hgx.block z (Array.getElem?_eq_some_iff.1 hz8).1 (fun e => hzx (Option.some.inj e))).trans hz8, b8, o8, c8, fun j => if j = n then g6 else G j, fun j => if j = n then c6 else cc j, hput.congr (fun j hj => ?_), ⟨hv8.other hgx (hx8 _ (by decide)), fun j hj => ?_⟩, hrd8.other hgx (hx8 _ (by decide)), hBf, hk0.trans ((Kpt.below hBwb).trans ((Kpt.grown hg8 (fun b hb => by obtain ⟨C, T', h1, rfl⟩ := hty b hb; exact ⟨C, _, h1, by decide⟩)).trans (Kpt.grown hgx (hx8 _ (by decide)))))⟩
  · rcases j with _ | _ | _ | _ | _ | _ | _ | j
    · rfl
    · rfl
    · rfl
    · rfl
    · rfl
    · rfl
    · rfl
    · omega
  · have hrow : ∀ g f, BRow wb g 2 f → BRow (W8.setCell ⟨x, o + 4, none⟩ (.slice (some ⟨b8, o8, none⟩) (n + 1) c8)) g 2 f := fun g f h =>
      (h.other hg8 (fun b hb => by obtain ⟨C, T', h1, rfl⟩ := hty b hb; exact ⟨C, _, h1, by decide⟩)).other hgx (hx8 _ (by decide))
    by_cases e : j = n
    · subst e
      simp only [if_true]
      exact ⟨hrow _ _ (hrb.congr (fun t ht => (hV t ht).symm)), hc61, hc62⟩
    · simp only [if_neg e]
      exact ⟨hrow _ _ (hsb.2 j (by omega)).1, (hsb.2 j (by omega)).2⟩
attribute [local irreducible] blk wLoad wLoadRes loadAns wStore wStoreRes storeAns Plain BRow shC inL grD
attribute [local go_sem ↓] ld_d0 sto_d0
attribute [local go_sem] ld_d sto_d loadAns_some storeAns_some dg_size dg_plain blk_alloc_if blk_setRow_if blk_drew_at blk_drewN_at rowPut_some blk_setCell_if cellPut_some
set_option maxRecDepth 100000 in
set_option maxHeartbeats 4000000 in
theorem re_take (x p base fr fi K m i n g c cs : Nat) (ss : Option Addr) (rdy : Value) (d mm : Int) (q : Nat → Value) (I G cc f : Nat → Nat) (V : Nat → Nat → Nat) (L : List Value) (w : World) (M T : World → Prop)
    (hw : WinAt w x p base fr rdy d mm q) (hb : base < 32) (hq4 : q 4 = .slice ss n cs) (hq5 : q 5 = .slice none 0 0) (hq6 : q 6 = .bool false) (hs : SdAt w x (.slice ss n cs) n I G cc V) (hr : VAt w x 34 1 rdy fr L)
    (hd : BRow w g 2 f) (hn : n ≤ 20) (hK1 : 1 ≤ K) (hK : K ≤ 8) (hm : m ≤ 6) (hi : i < K + m) (hIn : I n = i) (hI : ∀ j, j < n → I j < i) (hV : ∀ t, t < 2 → V n t = f t)
    (hfit : ∀ y, Below w.heap.size w y → Calls Try.prog 57 #[.pointer (some ⟨x, 3 + base * 7, none⟩), dgV (base : Nat) (fi : Nat) K m i g c] y (BoolB true y))
    (hmd : ∀ y, Took w x p base fr fi K m n rdy d mm I V L y → Calls Try.prog 59 #[.pointer (some ⟨x, 0, none⟩), .pointer (some ⟨x, 3 + base * 7, none⟩)] y (fun e y' => e = .returned (.tuple #[]) ∧ M y'))
    (htl : ∀ y, M y → Calls Try.prog 60 #[.pointer (some ⟨x, 0, none⟩)] y (fun e y' => e = .returned (.tuple #[]) ∧ T y')) :
    Calls Try.prog 25 #[.pointer (some ⟨x, 0, none⟩), dgV (base : Nat) (fi : Nat) K m i g c] w (fun e w' => e = .returned (.int .i64 0) ∧ T w') := by
  have hdk : dgK K i = 2 ∨ dgK K i = 3 := by unfold dgK; split <;> simp
  have hfit := Lib.hid hfit
  unfold dgV at *
  obtain ⟨kd, hkd⟩ : ∃ kd, dgK K i = kd := ⟨_, rfl⟩
  rw [hkd] at hdk hfit ⊢
  obtain ⟨o, ho⟩ : ∃ o, 3 + base * 7 = o := ⟨_, rfl⟩
  have hoh := Lib.hid ho
  have hwh := Lib.hid hw
  have hsh := Lib.hid hs
  have hrh := Lib.hid hr
  have hdh := Lib.hid hd
  have hInh := Lib.hid hIn
  have hIh := Lib.hid hI
  have hVh := Lib.hid hV
  have hmdh := Lib.hid hmd
  have htlh := Lib.hid htl
  have hq5h := Lib.hid hq5
  have hbh : Hid (True ∧ base < 32) := hide ⟨trivial, hb⟩
  rw [ho] at hmdh hfit
  have hdkh := Lib.hid hdk
  obtain ⟨W, hW⟩ : ∃ W, w.alloc (.cells #[.int .i64 kd, .int .u32 0, .int .u32 0, .int .i64 0, .int .u32 0, .int .u32 (base : Nat), .int .u32 (fi : Nat), .int .i64 (K : Nat), .int .i64 (m : Nat), .int .i64 (i : Nat), .slice (some ⟨g, 0, none⟩) 2 c] 73) = W := ⟨_, rfl⟩
  have hBW : Hid (Below w.heap.size w W) := hide (hW ▸ (Below.refl _ _).alloc (Nat.le_refl _) _)
  obtain ⟨z, hz⟩ : ∃ z, w.heap.size = z := ⟨_, rfl⟩
  have hblk : W.heap[z]? = some (.cells #[.int .i64 kd, .int .u32 0, .int .u32 0, .int .i64 0, .int .u32 0, .int .u32 (base : Nat), .int .u32 (fi : Nat), .int .i64 (K : Nat), .int .i64 (m : Nat), .int .i64 (i : Nat), .slice (some ⟨g, 0, none⟩) 2 c] 73 (0, 0)) := by rw [← hW, ← hz]; exact Array.getElem?_push_size (xs := w.heap)
  have hblkh := Lib.hid hblk
  have hzh := Lib.hid hz
  obtain ⟨e0, _, _, _, _, e5, e6, e7, e8, e9, e10⟩ := dg_cl hblk
  have k1 : decide ((K : Int) < 1) = false := decide_eq_false (by omega)
  have k2 : decide ((16 : Int) < (K : Int)) = false := decide_eq_false (by omega)
  have k3 : decide ((m : Int) < 0) = false := decide_eq_false (by omega)
  have k4 : decide ((16 : Int) < (m : Int)) = false := decide_eq_false (by omega)
  have k5 : decide ((i : Int) < 0) = false := decide_eq_false (by omega)
  have k6 : IntKind.i64.wrap ((K : Int) + (m : Int)) = (K : Int) + (m : Int) := IntWalk.i64_in _ (by omega)
  have k7 : decide ((K : Int) + (m : Int) ≤ (i : Int)) = false := decide_eq_false (by omega)
  have k8 : (i : Int) < (K : Int) + (m : Int) := by omega
  have hpl := Lib.hid (re_place x p base fr rdy d mm q W (hw.below hBW.out) hb)
  rw [ho] at hpl
  have hWh := Lib.hid hW
  clear hw hb hs hr hd hIn hI hV hmd htl hq5 hdk hW hblk hz ho hkd
  go_enter Try.func25, Try.ntmps25
  go_upto_region 1 with (fail)
  rw [hWh.out, hzh.out]
  go_cut [14] (fun v14 wx => v14 = .bool false ∧ wx = W)
  case first =>
    rcases hdkh.out with rfl | rfl
    all_goals
      go_wp2_with fail
      go_meet
      exact ⟨rfl, rfl⟩
  case rest =>
    obtain ⟨rfl, rfl⟩ := hcut
    go_wp2_with fail
    refine hpl.out.mono ?_
    rintro _ wd ⟨rfl, rfl⟩
    have b3 := blk_of hblkh.out
    go_wp2_with fail
    refine (hfit.out wc hBW.out).mono ?_
    rintro _ w3 ⟨rfl, hB3⟩
    have hB3h : Hid (Below w.heap.size w w3) := hide (hBW.out.trans (hB3.mono hBW.out.size))
    have hzl : z < wc.heap.size := (Array.getElem?_eq_some_iff.1 hblkh.out).1
    have hblk3 := (hB3.block z hzl).trans hblkh.out
    have hblk3h := Lib.hid hblk3
    obtain ⟨_, _, _, _, _, _, e6, e7, e8, e9, e10⟩ := dg_cl hblk3
    have hw3 := hwh.out.below hB3h.out
    have hp3 : ∀ j, j < 7 → w3.cell? ⟨x, 3 + base * 7 + j, none⟩ = some (q j) := by
      obtain ⟨C, hC, hWC⟩ := hw3
      exact fun j hj => by
        have hb : base < 32 := by
          obtain ⟨_, hb⟩ := hbh.out
          exact hb
        have := hWC.2.2.2.2.2.2.2 base j hb hj
        rw [if_pos rfl] at this
        exact (cell_of_block hC).trans this
    rw [hoh.out] at hp3
    have c4 : w3.cell? ⟨x, o + 4, none⟩ = some (.slice ss n cs) := by rw [hp3 4 (by omega), hq4]
    have c6 : w3.cell? ⟨x, o + 6, none⟩ = some (.bool false) := by rw [hp3 6 (by omega), hq6]
    have hs3 := hsh.out.below hB3h.out
    have hhas := Lib.hid (re_has x o n cs i ss I G cc w3 c4 (fun j hj => by
      obtain ⟨b, off, cp, e, _⟩ := hs3.1.ptr (by omega)
      cases e
      exact ⟨b, off, rfl, hs3.1.sdc⟩) (by omega) hIh.out)
    have hs3h := Lib.hid hs3
    have hw3h := Lib.hid hw3
    clear hp3 hs3 hw3 hB3 hblk3 e0 e5 b3 hfit hpl c4
    go_wp2_with fail
    refine hhas.out.mono ?_
    rintro _ w4 ⟨rfl, hB4⟩
    have hB4h : Hid (Below w.heap.size w w4) := hide (hB3h.out.trans (hB4.mono hB3h.out.size))
    have hw4 := hw3h.out.below hB4
    have hs4h := Lib.hid (hs3h.out.below hB4)
    have hz3 : z < w3.heap.size := (Array.getElem?_eq_some_iff.1 hblk3h.out).1
    have hblk4 := (hB4.block z hz3).trans hblk3h.out
    have hblk4h := Lib.hid hblk4
    clear e6 e7 e8 e9 e10
    obtain ⟨_, _, _, _, _, _, e6, e7, e8, e9, e10⟩ := dg_cl hblk4
    have hp4 := hw4.part hbh.out.2
    rw [hoh.out] at hp4
    have a0 : w4.cell? ⟨x, o, none⟩ = some (q 0) := hp4 0 (by omega)
    have a1 : w4.cell? ⟨x, o + 1, none⟩ = some (q 1) := hp4 1 (by omega)
    have a2 : w4.cell? ⟨x, o + 2, none⟩ = some (q 2) := hp4 2 (by omega)
    have a3 : w4.cell? ⟨x, o + 3, none⟩ = some (q 3) := hp4 3 (by omega)
    have f0 := hw4.frozen o
    have f1 := hw4.frozen (o + 1)
    have f2 := hw4.frozen (o + 2)
    have f3 := hw4.frozen (o + 3)
    have hw4h := Lib.hid hw4
    have hxz : x ≠ z := by have := hwh.out.lt; have := hzh.out; omega
    have hr4h := Lib.hid (hrh.out.below hB4h.out)
    clear hB4 hw4 hblk4 hp4 c6 hs3h hw3h hhas hblk3h
    go_upto_region 15 with (fail)
    go_cut [] (fun wx => wx = (((w4.drew.setCell ⟨x, o, none⟩ (.bool true)).setCell ⟨x, o + 1, none⟩ (.int .u32 (fi : Nat))).setCell ⟨x, o + 2, none⟩ (.int .i64 (K : Nat))).setCell ⟨x, o + 3, none⟩ (.int .i64 (m : Nat)))
    case first =>
      go_region
      all_goals
        go_wp2_with fail
        go_meet
        rfl
    case rest =>
      have hBdr := below_drewN (Below.refl w4.heap.size w4) 1
      have hw4d : WinAt w4.drew x p base fr rdy d mm q := hw4h.out.below hBdr
      obtain ⟨hw5, hg5⟩ := WinAt.four (fi := fi) (K := K) (m := m) hw4d hbh.out.2 hoh.out hq4 hq5h.out hq6
      obtain ⟨Cx, hCx⟩ := hw4d.type
      have hs5 := SdAt.other (hs4h.out.below hBdr) hg5 (fun b hb => by cases hb; exact ⟨Cx, _, hCx, by decide, by decide⟩)
      have hr5 := VAt.other (hr4h.out.below hBdr) hg5 (fun b hb => by cases hb; exact ⟨Cx, _, hCx, by decide⟩)
      have hd5 := BRow.other ((hdh.out.below hB4h.out hdh.out.lt).below hBdr (hdh.out.below hB4h.out hdh.out.lt).lt) hg5 (fun b hb => by cases hb; exact ⟨Cx, _, hCx, by decide⟩)
      have hz5 := (hg5.block z (Array.getElem?_eq_some_iff.1 hblk4h.out).1 (fun e => hxz (Option.some.inj e).symm)).trans ((hBdr.block z (Array.getElem?_eq_some_iff.1 hblk4h.out).1).trans hblk4h.out)
      have hB5 : Below x w _ := below_grown ((hB4h.out.mono (Nat.le_of_lt hwh.out.lt)).trans (hBdr.mono (Nat.le_of_lt hw4h.out.lt))) (Nat.le_of_lt hwh.out.lt) hg5 (fun b hb => by cases hb; exact Nat.le_refl _)
      have hK5 : Kpt w _ := (Kpt.below hB4h.out).trans ((Kpt.below hBdr).trans (Kpt.grown hg5 (fun b hb => by cases hb; exact ⟨Cx, _, hCx, by decide⟩)))
      rw [← hcut] at hw5 hs5 hr5 hd5 hz5 hB5 hK5
      clear hcut hg5 hw4d hBdr hCx a0 a1 a2 a3 f0 f1 f2 f3 hs4h hr4h hw4h e6 e7 e8 e9 e10 hblk4h
      have hBd := below_drewN (Below.refl wc.heap.size wc) 1
      have hwl := hw5.lt
      obtain ⟨g6, c6, w6, hrn, hB6, b8, o8, c8, W8, hr8, hc48, hf48, hz8, hzf, htk⟩ := took_mem x p base fr fi K m i n g c cs o z ss rdy d mm I G cc f V L w wc.drew _ (hw5.below hBd) hbh.out.2 hoh.out (hs5.below hBd) (hr5.below hBd) (hd5.below hBd hd5.lt) hn hInh.out hVh.out ((hBd.block z (Array.getElem?_eq_some_iff.1 hz5).1).trans hz5) (hB5.trans (hBd.mono (Nat.le_of_lt hwl))) (Nat.le_of_lt hwh.out.lt) (hK5.trans (Kpt.below hBd))
      have hp5 := hw5.part hbh.out.2
      rw [hoh.out] at hp5
      have c45 : wc.cell? ⟨x, o + 4, none⟩ = some (.slice ss n cs) := hp5 4 (by omega)
      have hzd : wc.drew.heap[z]? = _ := (hBd.block z (Array.getElem?_eq_some_iff.1 hz5).1).trans hz5
      have hSz : ∀ y : World, y.heap[z]? = wc.drew.heap[z]? → (fun y : World => y.cell? ⟨z, 9, none⟩ = some (.int .i64 (i : Nat)) ∧ y.cell? ⟨z, 10, none⟩ = some (.slice (some ⟨g, 0, none⟩) 2 c)) y := fun y hy => by
        rw [hzd] at hy
        obtain ⟨_, _, _, _, _, _, _, _, _, e9, e10⟩ := dg_cl hy
        exact ⟨e9, e10⟩
      have hzlt := (Array.getElem?_eq_some_iff.1 hzd).1
      have hrnh := Lib.hid hrn
      have hr8h := Lib.hid hr8
      have htkh := Lib.hid htk
      have hSzh := Lib.hid hSz
      have hz8h := Lib.hid (hz8.trans hzd.symm)
      have hzfh := Lib.hid (hzf.trans hzd.symm)
      have hB6h := Lib.hid hB6
      have hBdh := Lib.hid hBd
      clear hw5 hs5 hr5 hd5 hz5 hB5 hK5 hrn hr8 htk hSz hz8 hzf hB6 hp5 hzd hBd
      go_upto_region 16 with (fail)
      have hc45d : wc.drew.cell? ⟨x, o + 4, none⟩ = some (.slice ss n cs) := c45
      have hxd : x < wc.drew.heap.size := hwl
      clear c45 hwl hBdh
      go_cut [] (fun wx => wx = (W8.setCell ⟨x, o + 4, none⟩ (.slice (some ⟨b8, o8, none⟩) (n + 1) c8)))
      case first =>
        refine h_begin 17 (fun y : World => y.cell? ⟨z, 9, none⟩ = some (.int .i64 (i : Nat)) ∧ y.cell? ⟨z, 10, none⟩ = some (.slice (some ⟨g, 0, none⟩) 2 c)) rfl (by kernel_rfl) (hSzh.out _ rfl) ?_
        generalize wc.drew = wd at *
        have hHeld := hSzh.out wd rfl
        first
          | (refine h_run (i := 0) (v := ?_) hHeld rfl (by kernel_rfl) (by kernel_rfl) (by kernel_rfl) ?_ ?_ ?_
             rotate_left
             · rfl
             · (intro x hSx; (try dsimp only at hSx); go_simp <;> with_reducible rfl)
             simp only [Act.put, List.setIfInBounds_toArray, List.set_cons_zero, List.set_cons_succ])
          | (refine h_skip (i := 0) hHeld rfl (by kernel_rfl) (by kernel_rfl) (by kernel_rfl) ?_ ?_
             · rfl
             simp only [Act.put, List.setIfInBounds_toArray, List.set_cons_zero, List.set_cons_succ])
        first
          | (refine h_run (i := 1) (v := ?_) hHeld rfl (by kernel_rfl) (by kernel_rfl) (by kernel_rfl) ?_ ?_ ?_
             rotate_left
             · rfl
             · (intro x hSx; (try dsimp only at hSx); go_simp <;> with_reducible rfl)
             simp only [Act.put, List.setIfInBounds_toArray, List.set_cons_zero, List.set_cons_succ])
          | (refine h_skip (i := 1) hHeld rfl (by kernel_rfl) (by kernel_rfl) (by kernel_rfl) ?_ ?_
             · rfl
             simp only [Act.put, List.setIfInBounds_toArray, List.set_cons_zero, List.set_cons_succ])
        first
          | (refine h_run (i := 2) (v := ?_) hHeld rfl (by kernel_rfl) (by kernel_rfl) (by kernel_rfl) ?_ ?_ ?_
             rotate_left
             · rfl
             · (intro x hSx; (try dsimp only at hSx); go_simp <;> with_reducible rfl)
             simp only [Act.put, List.setIfInBounds_toArray, List.set_cons_zero, List.set_cons_succ])
          | (refine h_skip (i := 2) hHeld rfl (by kernel_rfl) (by kernel_rfl) (by kernel_rfl) ?_ ?_
             · rfl
             simp only [Act.put, List.setIfInBounds_toArray, List.set_cons_zero, List.set_cons_succ])
        first
          | (refine h_run (i := 3) (v := ?_) hHeld rfl (by kernel_rfl) (by kernel_rfl) (by kernel_rfl) ?_ ?_ ?_
             rotate_left
             · rfl
             · (intro x hSx; (try dsimp only at hSx); go_simp <;> with_reducible rfl)
             simp only [Act.put, List.setIfInBounds_toArray, List.set_cons_zero, List.set_cons_succ])
          | (refine h_skip (i := 3) hHeld rfl (by kernel_rfl) (by kernel_rfl) (by kernel_rfl) ?_ ?_
             · rfl
             simp only [Act.put, List.setIfInBounds_toArray, List.set_cons_zero, List.set_cons_succ])
        first
          | (refine h_run (i := 5) (v := ?_) hHeld rfl (by kernel_rfl) (by kernel_rfl) (by kernel_rfl) ?_ ?_ ?_
             rotate_left
             · rfl
             · (intro x hSx; (try dsimp only at hSx); go_simp <;> with_reducible rfl)
             simp only [Act.put, List.setIfInBounds_toArray, List.set_cons_zero, List.set_cons_succ])
          | (refine h_skip (i := 5) hHeld rfl (by kernel_rfl) (by kernel_rfl) (by kernel_rfl) ?_ ?_
             · rfl
             simp only [Act.put, List.setIfInBounds_toArray, List.set_cons_zero, List.set_cons_succ])
        first
          | (refine h_run (i := 6) (v := ?_) hHeld rfl (by kernel_rfl) (by kernel_rfl) (by kernel_rfl) ?_ ?_ ?_
             rotate_left
             · rfl
             · (intro x hSx; (try dsimp only at hSx); go_simp <;> with_reducible rfl)
             simp only [Act.put, List.setIfInBounds_toArray, List.set_cons_zero, List.set_cons_succ])
          | (refine h_skip (i := 6) hHeld rfl (by kernel_rfl) (by kernel_rfl) (by kernel_rfl) ?_ ?_
             · rfl
             simp only [Act.put, List.setIfInBounds_toArray, List.set_cons_zero, List.set_cons_succ])
        first
          | (refine h_run (i := 8) (v := ?_) hHeld rfl (by kernel_rfl) (by kernel_rfl) (by kernel_rfl) ?_ ?_ ?_
             rotate_left
             · rfl
             · (intro x hSx; (try dsimp only at hSx); go_simp <;> with_reducible rfl)
             simp only [Act.put, List.setIfInBounds_toArray, List.set_cons_zero, List.set_cons_succ])
          | (refine h_skip (i := 8) hHeld rfl (by kernel_rfl) (by kernel_rfl) (by kernel_rfl) ?_ ?_
             · rfl
             simp only [Act.put, List.setIfInBounds_toArray, List.set_cons_zero, List.set_cons_succ])
        first
          | (refine h_run (i := 9) (v := ?_) hHeld rfl (by kernel_rfl) (by kernel_rfl) (by kernel_rfl) ?_ ?_ ?_
             rotate_left
             · rfl
             · (intro x hSx; (try dsimp only at hSx); go_simp <;> with_reducible rfl)
             simp only [Act.put, List.setIfInBounds_toArray, List.set_cons_zero, List.set_cons_succ])
          | (refine h_skip (i := 9) hHeld rfl (by kernel_rfl) (by kernel_rfl) (by kernel_rfl) ?_ ?_
             · rfl
             simp only [Act.put, List.setIfInBounds_toArray, List.set_cons_zero, List.set_cons_succ])
        have hBa : Below wd.heap.size wd (wd.alloc (.cells #[] 5)) := (Below.refl _ _).alloc (Nat.le_refl _) _
        have c4a : World.cell? (wd.alloc (.cells #[] 5)) ⟨x, o + 4, none⟩ = some (.slice ss n cs) := (hBa.cell (cell_block_lt hc45d)).trans hc45d
        have c46 : w6.cell? ⟨x, o + 4, none⟩ = some (.slice ss n cs) := (hB6h.out.cell (cell_block_lt hc45d)).trans hc45d
        have hSa := hSzh.out _ (hBa.block z hzlt)
        have hS6 := hSzh.out _ (hB6h.out.block z hzlt)
        have hBb : Below w6.heap.size w6 (w6.alloc (.cells #[.int .i64 (i : Nat), .slice (some ⟨g6, 0, none⟩) 2 c6] 139)) := (Below.refl _ _).alloc (Nat.le_refl _) _
        have c4b : World.cell? (w6.alloc (.cells #[.int .i64 (i : Nat), .slice (some ⟨g6, 0, none⟩) 2 c6] 139)) ⟨x, o + 4, none⟩ = some (.slice ss n cs) := (hBb.cell (cell_block_lt c46)).trans c46
        have hSb := hSzh.out _ ((hBb.block z (Nat.lt_of_lt_of_le hzlt hB6h.out.size)).trans (hB6h.out.block z hzlt))
        have hS8 := hSzh.out _ hz8h.out
        have hSf := hSzh.out _ hzfh.out
        clear hBa hBb
        refine h_fork (i := 4) (j := 7) (vi := (.slice ss n cs)) (vj := (.slice (some ⟨wd.heap.size, 0, none⟩) 0 0)) (w1 := (wd.alloc (.cells #[] 5))) rfl rfl (by kernel_rfl) (fun _ => rfl) (fun _ => rfl) ?_ ?_ hHeld hSa ?_ ?_
        · go_simp <;> with_reducible rfl
        · go_simp <;> with_reducible rfl
        · try simp only [Act.put, List.setIfInBounds_toArray, List.set_cons_zero, List.set_cons_succ]
          refine h_value (i := 7) (v := (.slice (some ⟨wd.heap.size, 0, none⟩) 0 0)) (w' := (wd.alloc (.cells #[] 5))) (fun y : World => y.cell? ⟨z, 9, none⟩ = some (.int .i64 (i : Nat)) ∧ y.cell? ⟨z, 10, none⟩ = some (.slice (some ⟨g, 0, none⟩) 2 c)) (fun _ h => h) rfl (by kernel_rfl) rfl ?_ hSa ?_
          · go_simp <;> with_reducible rfl
          try simp only [Act.put, List.setIfInBounds_toArray, List.set_cons_zero, List.set_cons_succ]
          refine h_value (i := 10) (v := (.slice (some ⟨g6, 0, none⟩) 2 c6)) (w' := w6) (fun y : World => y.cell? ⟨z, 9, none⟩ = some (.int .i64 (i : Nat)) ∧ y.cell? ⟨z, 10, none⟩ = some (.slice (some ⟨g, 0, none⟩) 2 c)) (fun _ h => h) rfl (by kernel_rfl) rfl ?_ hS6 ?_
          · exact exec_appendM (.tmp 108) (.tmp 110) _ _ rfl rfl rfl hrnh.out
          try simp only [Act.put, List.setIfInBounds_toArray, List.set_cons_zero, List.set_cons_succ]
          refine h_value (i := 11) (v := (.agg #[.int .i64 (i : Nat), .slice (some ⟨g6, 0, none⟩) 2 c6])) (w' := w6) (fun y : World => y.cell? ⟨z, 9, none⟩ = some (.int .i64 (i : Nat)) ∧ y.cell? ⟨z, 10, none⟩ = some (.slice (some ⟨g, 0, none⟩) 2 c)) (fun _ h => h) rfl (by kernel_rfl) rfl ?_ hS6 ?_
          · go_simp <;> with_reducible rfl
          try simp only [Act.put, List.setIfInBounds_toArray, List.set_cons_zero, List.set_cons_succ]
          refine h_value (i := 12) (v := (.slice (some ⟨w6.heap.size, 0, none⟩) 1 1)) (w' := (w6.alloc (.cells #[.int .i64 (i : Nat), .slice (some ⟨g6, 0, none⟩) 2 c6] 139))) (fun y : World => y.cell? ⟨z, 9, none⟩ = some (.int .i64 (i : Nat)) ∧ y.cell? ⟨z, 10, none⟩ = some (.slice (some ⟨g, 0, none⟩) 2 c)) (fun _ h => h) rfl (by kernel_rfl) rfl ?_ hSb ?_
          · go_simp <;> with_reducible rfl
          try simp only [Act.put, List.setIfInBounds_toArray, List.set_cons_zero, List.set_cons_succ]
          refine h_value (i := 13) (v := (.slice (some ⟨b8, o8, none⟩) (n + 1) c8)) (w' := W8) (fun y : World => y.cell? ⟨z, 9, none⟩ = some (.int .i64 (i : Nat)) ∧ y.cell? ⟨z, 10, none⟩ = some (.slice (some ⟨g, 0, none⟩) 2 c)) (fun _ h => h) rfl (by kernel_rfl) rfl ?_ hS8 ?_
          · exact exec_appendM (.tmp 105) (.tmp 113) _ _ rfl rfl rfl hr8h.out
          try simp only [Act.put, List.setIfInBounds_toArray, List.set_cons_zero, List.set_cons_succ]
          have hHeld : (fun y : World => y.cell? ⟨z, 9, none⟩ = some (.int .i64 (i : Nat)) ∧ y.cell? ⟨z, 10, none⟩ = some (.slice (some ⟨g, 0, none⟩) 2 c)) W8 := hS8
          first
            | (refine h_run (i := 14) (v := ?_) hHeld rfl (by kernel_rfl) (by kernel_rfl) (by kernel_rfl) ?_ ?_ ?_
               rotate_left
               · rfl
               · (intro x hSx; (try dsimp only at hSx); go_simp <;> with_reducible rfl)
               simp only [Act.put, List.setIfInBounds_toArray, List.set_cons_zero, List.set_cons_succ])
            | (refine h_skip (i := 14) hHeld rfl (by kernel_rfl) (by kernel_rfl) (by kernel_rfl) ?_ ?_
               · rfl
               simp only [Act.put, List.setIfInBounds_toArray, List.set_cons_zero, List.set_cons_succ])
          first
            | (refine h_run (i := 15) (v := ?_) hHeld rfl (by kernel_rfl) (by kernel_rfl) (by kernel_rfl) ?_ ?_ ?_
               rotate_left
               · rfl
               · (intro x hSx; (try dsimp only at hSx); go_simp <;> with_reducible rfl)
               simp only [Act.put, List.setIfInBounds_toArray, List.set_cons_zero, List.set_cons_succ])
            | (refine h_skip (i := 15) hHeld rfl (by kernel_rfl) (by kernel_rfl) (by kernel_rfl) ?_ ?_
               · rfl
               simp only [Act.put, List.setIfInBounds_toArray, List.set_cons_zero, List.set_cons_succ])
          refine h_write (i := 16) (w' := (W8.setCell ⟨x, o + 4, none⟩ (.slice (some ⟨b8, o8, none⟩) (n + 1) c8))) (fun y : World => y.cell? ⟨z, 9, none⟩ = some (.int .i64 (i : Nat)) ∧ y.cell? ⟨z, 10, none⟩ = some (.slice (some ⟨g, 0, none⟩) 2 c)) (fun _ h => h) rfl (by kernel_rfl) rfl ?_ hSf ?_
          · go_simp <;> with_reducible rfl
          refine h_done (by kernel_rfl) ?_
          try simp only [Act.put, List.setIfInBounds_toArray, List.set_cons_zero, List.set_cons_succ]
          clear hHeld
          go_wp2_with fail
          go_meet
          rfl
        try simp only [Act.put, List.setIfInBounds_toArray, List.set_cons_zero, List.set_cons_succ]
        refine h_fork (i := 4) (j := 10) (vi := (.slice ss n cs)) (vj := (.slice (some ⟨g6, 0, none⟩) 2 c6)) (w1 := w6) rfl rfl (by kernel_rfl) (fun _ => rfl) (fun _ => rfl) ?_ ?_ hSa hS6 ?_ ?_
        · go_simp <;> with_reducible rfl
        · exact exec_appendM (.tmp 108) (.tmp 110) _ _ rfl rfl rfl hrnh.out
        · try simp only [Act.put, List.setIfInBounds_toArray, List.set_cons_zero, List.set_cons_succ]
          refine h_value (i := 10) (v := (.slice (some ⟨g6, 0, none⟩) 2 c6)) (w' := w6) (fun y : World => y.cell? ⟨z, 9, none⟩ = some (.int .i64 (i : Nat)) ∧ y.cell? ⟨z, 10, none⟩ = some (.slice (some ⟨g, 0, none⟩) 2 c)) (fun _ h => h) rfl (by kernel_rfl) rfl ?_ hS6 ?_
          · exact exec_appendM (.tmp 108) (.tmp 110) _ _ rfl rfl rfl hrnh.out
          try simp only [Act.put, List.setIfInBounds_toArray, List.set_cons_zero, List.set_cons_succ]
          refine h_value (i := 11) (v := (.agg #[.int .i64 (i : Nat), .slice (some ⟨g6, 0, none⟩) 2 c6])) (w' := w6) (fun y : World => y.cell? ⟨z, 9, none⟩ = some (.int .i64 (i : Nat)) ∧ y.cell? ⟨z, 10, none⟩ = some (.slice (some ⟨g, 0, none⟩) 2 c)) (fun _ h => h) rfl (by kernel_rfl) rfl ?_ hS6 ?_
          · go_simp <;> with_reducible rfl
          try simp only [Act.put, List.setIfInBounds_toArray, List.set_cons_zero, List.set_cons_succ]
          refine h_value (i := 12) (v := (.slice (some ⟨w6.heap.size, 0, none⟩) 1 1)) (w' := (w6.alloc (.cells #[.int .i64 (i : Nat), .slice (some ⟨g6, 0, none⟩) 2 c6] 139))) (fun y : World => y.cell? ⟨z, 9, none⟩ = some (.int .i64 (i : Nat)) ∧ y.cell? ⟨z, 10, none⟩ = some (.slice (some ⟨g, 0, none⟩) 2 c)) (fun _ h => h) rfl (by kernel_rfl) rfl ?_ hSb ?_
          · go_simp <;> with_reducible rfl
          try simp only [Act.put, List.setIfInBounds_toArray, List.set_cons_zero, List.set_cons_succ]
          refine h_value (i := 13) (v := (.slice (some ⟨b8, o8, none⟩) (n + 1) c8)) (w' := W8) (fun y : World => y.cell? ⟨z, 9, none⟩ = some (.int .i64 (i : Nat)) ∧ y.cell? ⟨z, 10, none⟩ = some (.slice (some ⟨g, 0, none⟩) 2 c)) (fun _ h => h) rfl (by kernel_rfl) rfl ?_ hS8 ?_
          · exact exec_appendM (.tmp 105) (.tmp 113) _ _ rfl rfl rfl hr8h.out
          try simp only [Act.put, List.setIfInBounds_toArray, List.set_cons_zero, List.set_cons_succ]
          have hHeld : (fun y : World => y.cell? ⟨z, 9, none⟩ = some (.int .i64 (i : Nat)) ∧ y.cell? ⟨z, 10, none⟩ = some (.slice (some ⟨g, 0, none⟩) 2 c)) W8 := hS8
          first
            | (refine h_run (i := 14) (v := ?_) hHeld rfl (by kernel_rfl) (by kernel_rfl) (by kernel_rfl) ?_ ?_ ?_
               rotate_left
               · rfl
               · (intro x hSx; (try dsimp only at hSx); go_simp <;> with_reducible rfl)
               simp only [Act.put, List.setIfInBounds_toArray, List.set_cons_zero, List.set_cons_succ])
            | (refine h_skip (i := 14) hHeld rfl (by kernel_rfl) (by kernel_rfl) (by kernel_rfl) ?_ ?_
               · rfl
               simp only [Act.put, List.setIfInBounds_toArray, List.set_cons_zero, List.set_cons_succ])
          first
            | (refine h_run (i := 15) (v := ?_) hHeld rfl (by kernel_rfl) (by kernel_rfl) (by kernel_rfl) ?_ ?_ ?_
               rotate_left
               · rfl
               · (intro x hSx; (try dsimp only at hSx); go_simp <;> with_reducible rfl)
               simp only [Act.put, List.setIfInBounds_toArray, List.set_cons_zero, List.set_cons_succ])
            | (refine h_skip (i := 15) hHeld rfl (by kernel_rfl) (by kernel_rfl) (by kernel_rfl) ?_ ?_
               · rfl
               simp only [Act.put, List.setIfInBounds_toArray, List.set_cons_zero, List.set_cons_succ])
          refine h_write (i := 16) (w' := (W8.setCell ⟨x, o + 4, none⟩ (.slice (some ⟨b8, o8, none⟩) (n + 1) c8))) (fun y : World => y.cell? ⟨z, 9, none⟩ = some (.int .i64 (i : Nat)) ∧ y.cell? ⟨z, 10, none⟩ = some (.slice (some ⟨g, 0, none⟩) 2 c)) (fun _ h => h) rfl (by kernel_rfl) rfl ?_ hSf ?_
          · go_simp <;> with_reducible rfl
          refine h_done (by kernel_rfl) ?_
          try simp only [Act.put, List.setIfInBounds_toArray, List.set_cons_zero, List.set_cons_succ]
          clear hHeld
          go_wp2_with fail
          go_meet
          rfl
        try simp only [Act.put, List.setIfInBounds_toArray, List.set_cons_zero, List.set_cons_succ]
        refine h_fork (i := 4) (j := 11) (vi := (.slice ss n cs)) (vj := (.agg #[.int .i64 (i : Nat), .slice (some ⟨g6, 0, none⟩) 2 c6])) (w1 := w6) rfl rfl (by kernel_rfl) (fun _ => rfl) (fun _ => rfl) ?_ ?_ hS6 hS6 ?_ ?_
        · go_simp <;> with_reducible rfl
        · go_simp <;> with_reducible rfl
        · try simp only [Act.put, List.setIfInBounds_toArray, List.set_cons_zero, List.set_cons_succ]
          refine h_value (i := 11) (v := (.agg #[.int .i64 (i : Nat), .slice (some ⟨g6, 0, none⟩) 2 c6])) (w' := w6) (fun y : World => y.cell? ⟨z, 9, none⟩ = some (.int .i64 (i : Nat)) ∧ y.cell? ⟨z, 10, none⟩ = some (.slice (some ⟨g, 0, none⟩) 2 c)) (fun _ h => h) rfl (by kernel_rfl) rfl ?_ hS6 ?_
          · go_simp <;> with_reducible rfl
          try simp only [Act.put, List.setIfInBounds_toArray, List.set_cons_zero, List.set_cons_succ]
          refine h_value (i := 12) (v := (.slice (some ⟨w6.heap.size, 0, none⟩) 1 1)) (w' := (w6.alloc (.cells #[.int .i64 (i : Nat), .slice (some ⟨g6, 0, none⟩) 2 c6] 139))) (fun y : World => y.cell? ⟨z, 9, none⟩ = some (.int .i64 (i : Nat)) ∧ y.cell? ⟨z, 10, none⟩ = some (.slice (some ⟨g, 0, none⟩) 2 c)) (fun _ h => h) rfl (by kernel_rfl) rfl ?_ hSb ?_
          · go_simp <;> with_reducible rfl
          try simp only [Act.put, List.setIfInBounds_toArray, List.set_cons_zero, List.set_cons_succ]
          refine h_value (i := 13) (v := (.slice (some ⟨b8, o8, none⟩) (n + 1) c8)) (w' := W8) (fun y : World => y.cell? ⟨z, 9, none⟩ = some (.int .i64 (i : Nat)) ∧ y.cell? ⟨z, 10, none⟩ = some (.slice (some ⟨g, 0, none⟩) 2 c)) (fun _ h => h) rfl (by kernel_rfl) rfl ?_ hS8 ?_
          · exact exec_appendM (.tmp 105) (.tmp 113) _ _ rfl rfl rfl hr8h.out
          try simp only [Act.put, List.setIfInBounds_toArray, List.set_cons_zero, List.set_cons_succ]
          have hHeld : (fun y : World => y.cell? ⟨z, 9, none⟩ = some (.int .i64 (i : Nat)) ∧ y.cell? ⟨z, 10, none⟩ = some (.slice (some ⟨g, 0, none⟩) 2 c)) W8 := hS8
          first
            | (refine h_run (i := 14) (v := ?_) hHeld rfl (by kernel_rfl) (by kernel_rfl) (by kernel_rfl) ?_ ?_ ?_
               rotate_left
               · rfl
               · (intro x hSx; (try dsimp only at hSx); go_simp <;> with_reducible rfl)
               simp only [Act.put, List.setIfInBounds_toArray, List.set_cons_zero, List.set_cons_succ])
            | (refine h_skip (i := 14) hHeld rfl (by kernel_rfl) (by kernel_rfl) (by kernel_rfl) ?_ ?_
               · rfl
               simp only [Act.put, List.setIfInBounds_toArray, List.set_cons_zero, List.set_cons_succ])
          first
            | (refine h_run (i := 15) (v := ?_) hHeld rfl (by kernel_rfl) (by kernel_rfl) (by kernel_rfl) ?_ ?_ ?_
               rotate_left
               · rfl
               · (intro x hSx; (try dsimp only at hSx); go_simp <;> with_reducible rfl)
               simp only [Act.put, List.setIfInBounds_toArray, List.set_cons_zero, List.set_cons_succ])
            | (refine h_skip (i := 15) hHeld rfl (by kernel_rfl) (by kernel_rfl) (by kernel_rfl) ?_ ?_
               · rfl
               simp only [Act.put, List.setIfInBounds_toArray, List.set_cons_zero, List.set_cons_succ])
          refine h_write (i := 16) (w' := (W8.setCell ⟨x, o + 4, none⟩ (.slice (some ⟨b8, o8, none⟩) (n + 1) c8))) (fun y : World => y.cell? ⟨z, 9, none⟩ = some (.int .i64 (i : Nat)) ∧ y.cell? ⟨z, 10, none⟩ = some (.slice (some ⟨g, 0, none⟩) 2 c)) (fun _ h => h) rfl (by kernel_rfl) rfl ?_ hSf ?_
          · go_simp <;> with_reducible rfl
          refine h_done (by kernel_rfl) ?_
          try simp only [Act.put, List.setIfInBounds_toArray, List.set_cons_zero, List.set_cons_succ]
          clear hHeld
          go_wp2_with fail
          go_meet
          rfl
        try simp only [Act.put, List.setIfInBounds_toArray, List.set_cons_zero, List.set_cons_succ]
        refine h_fork (i := 4) (j := 12) (vi := (.slice ss n cs)) (vj := (.slice (some ⟨w6.heap.size, 0, none⟩) 1 1)) (w1 := (w6.alloc (.cells #[.int .i64 (i : Nat), .slice (some ⟨g6, 0, none⟩) 2 c6] 139))) rfl rfl (by kernel_rfl) (fun _ => rfl) (fun _ => rfl) ?_ ?_ hS6 hSb ?_ ?_
        · go_simp <;> with_reducible rfl
        · go_simp <;> with_reducible rfl
        · try simp only [Act.put, List.setIfInBounds_toArray, List.set_cons_zero, List.set_cons_succ]
          refine h_value (i := 12) (v := (.slice (some ⟨w6.heap.size, 0, none⟩) 1 1)) (w' := (w6.alloc (.cells #[.int .i64 (i : Nat), .slice (some ⟨g6, 0, none⟩) 2 c6] 139))) (fun y : World => y.cell? ⟨z, 9, none⟩ = some (.int .i64 (i : Nat)) ∧ y.cell? ⟨z, 10, none⟩ = some (.slice (some ⟨g, 0, none⟩) 2 c)) (fun _ h => h) rfl (by kernel_rfl) rfl ?_ hSb ?_
          · go_simp <;> with_reducible rfl
          try simp only [Act.put, List.setIfInBounds_toArray, List.set_cons_zero, List.set_cons_succ]
          refine h_value (i := 13) (v := (.slice (some ⟨b8, o8, none⟩) (n + 1) c8)) (w' := W8) (fun y : World => y.cell? ⟨z, 9, none⟩ = some (.int .i64 (i : Nat)) ∧ y.cell? ⟨z, 10, none⟩ = some (.slice (some ⟨g, 0, none⟩) 2 c)) (fun _ h => h) rfl (by kernel_rfl) rfl ?_ hS8 ?_
          · exact exec_appendM (.tmp 105) (.tmp 113) _ _ rfl rfl rfl hr8h.out
          try simp only [Act.put, List.setIfInBounds_toArray, List.set_cons_zero, List.set_cons_succ]
          have hHeld : (fun y : World => y.cell? ⟨z, 9, none⟩ = some (.int .i64 (i : Nat)) ∧ y.cell? ⟨z, 10, none⟩ = some (.slice (some ⟨g, 0, none⟩) 2 c)) W8 := hS8
          first
            | (refine h_run (i := 14) (v := ?_) hHeld rfl (by kernel_rfl) (by kernel_rfl) (by kernel_rfl) ?_ ?_ ?_
               rotate_left
               · rfl
               · (intro x hSx; (try dsimp only at hSx); go_simp <;> with_reducible rfl)
               simp only [Act.put, List.setIfInBounds_toArray, List.set_cons_zero, List.set_cons_succ])
            | (refine h_skip (i := 14) hHeld rfl (by kernel_rfl) (by kernel_rfl) (by kernel_rfl) ?_ ?_
               · rfl
               simp only [Act.put, List.setIfInBounds_toArray, List.set_cons_zero, List.set_cons_succ])
          first
            | (refine h_run (i := 15) (v := ?_) hHeld rfl (by kernel_rfl) (by kernel_rfl) (by kernel_rfl) ?_ ?_ ?_
               rotate_left
               · rfl
               · (intro x hSx; (try dsimp only at hSx); go_simp <;> with_reducible rfl)
               simp only [Act.put, List.setIfInBounds_toArray, List.set_cons_zero, List.set_cons_succ])
            | (refine h_skip (i := 15) hHeld rfl (by kernel_rfl) (by kernel_rfl) (by kernel_rfl) ?_ ?_
               · rfl
               simp only [Act.put, List.setIfInBounds_toArray, List.set_cons_zero, List.set_cons_succ])
          refine h_write (i := 16) (w' := (W8.setCell ⟨x, o + 4, none⟩ (.slice (some ⟨b8, o8, none⟩) (n + 1) c8))) (fun y : World => y.cell? ⟨z, 9, none⟩ = some (.int .i64 (i : Nat)) ∧ y.cell? ⟨z, 10, none⟩ = some (.slice (some ⟨g, 0, none⟩) 2 c)) (fun _ h => h) rfl (by kernel_rfl) rfl ?_ hSf ?_
          · go_simp <;> with_reducible rfl
          refine h_done (by kernel_rfl) ?_
          try simp only [Act.put, List.setIfInBounds_toArray, List.set_cons_zero, List.set_cons_succ]
          clear hHeld
          go_wp2_with fail
          go_meet
          rfl
        try simp only [Act.put, List.setIfInBounds_toArray, List.set_cons_zero, List.set_cons_succ]
        refine h_value (i := 4) (v := (.slice ss n cs)) (w' := (w6.alloc (.cells #[.int .i64 (i : Nat), .slice (some ⟨g6, 0, none⟩) 2 c6] 139))) (fun y : World => y.cell? ⟨z, 9, none⟩ = some (.int .i64 (i : Nat)) ∧ y.cell? ⟨z, 10, none⟩ = some (.slice (some ⟨g, 0, none⟩) 2 c)) (fun _ h => h) rfl (by kernel_rfl) rfl ?_ hSb ?_
        · go_simp <;> with_reducible rfl
        try simp only [Act.put, List.setIfInBounds_toArray, List.set_cons_zero, List.set_cons_succ]
        refine h_value (i := 13) (v := (.slice (some ⟨b8, o8, none⟩) (n + 1) c8)) (w' := W8) (fun y : World => y.cell? ⟨z, 9, none⟩ = some (.int .i64 (i : Nat)) ∧ y.cell? ⟨z, 10, none⟩ = some (.slice (some ⟨g, 0, none⟩) 2 c)) (fun _ h => h) rfl (by kernel_rfl) rfl ?_ hS8 ?_
        · exact exec_appendM (.tmp 105) (.tmp 113) _ _ rfl rfl rfl hr8h.out
        try simp only [Act.put, List.setIfInBounds_toArray, List.set_cons_zero, List.set_cons_succ]
        have hHeld : (fun y : World => y.cell? ⟨z, 9, none⟩ = some (.int .i64 (i : Nat)) ∧ y.cell? ⟨z, 10, none⟩ = some (.slice (some ⟨g, 0, none⟩) 2 c)) W8 := hS8
        first
          | (refine h_run (i := 14) (v := ?_) hHeld rfl (by kernel_rfl) (by kernel_rfl) (by kernel_rfl) ?_ ?_ ?_
             rotate_left
             · rfl
             · (intro x hSx; (try dsimp only at hSx); go_simp <;> with_reducible rfl)
             simp only [Act.put, List.setIfInBounds_toArray, List.set_cons_zero, List.set_cons_succ])
          | (refine h_skip (i := 14) hHeld rfl (by kernel_rfl) (by kernel_rfl) (by kernel_rfl) ?_ ?_
             · rfl
             simp only [Act.put, List.setIfInBounds_toArray, List.set_cons_zero, List.set_cons_succ])
        first
          | (refine h_run (i := 15) (v := ?_) hHeld rfl (by kernel_rfl) (by kernel_rfl) (by kernel_rfl) ?_ ?_ ?_
             rotate_left
             · rfl
             · (intro x hSx; (try dsimp only at hSx); go_simp <;> with_reducible rfl)
             simp only [Act.put, List.setIfInBounds_toArray, List.set_cons_zero, List.set_cons_succ])
          | (refine h_skip (i := 15) hHeld rfl (by kernel_rfl) (by kernel_rfl) (by kernel_rfl) ?_ ?_
             · rfl
             simp only [Act.put, List.setIfInBounds_toArray, List.set_cons_zero, List.set_cons_succ])
        refine h_write (i := 16) (w' := (W8.setCell ⟨x, o + 4, none⟩ (.slice (some ⟨b8, o8, none⟩) (n + 1) c8))) (fun y : World => y.cell? ⟨z, 9, none⟩ = some (.int .i64 (i : Nat)) ∧ y.cell? ⟨z, 10, none⟩ = some (.slice (some ⟨g, 0, none⟩) 2 c)) (fun _ h => h) rfl (by kernel_rfl) rfl ?_ hSf ?_
        · go_simp <;> with_reducible rfl
        refine h_done (by kernel_rfl) ?_
        try simp only [Act.put, List.setIfInBounds_toArray, List.set_cons_zero, List.set_cons_succ]
        clear hHeld
        go_wp2_with fail
        go_meet
        rfl
      case rest =>
        rw [← hcut] at htkh
        clear hcut hc45d hc48 hf48 hzlt hSzh hz8h hzfh
        go_wp2_with fail
        refine (hmdh.out wc htkh.out).mono ?_
        rintro _ wm ⟨rfl, hM⟩
        have hMh := Lib.hid hM
        clear hM
        go_wp2_with fail
        refine (htlh.out wm hMh.out).mono ?_
        rintro _ wt ⟨rfl, hT⟩
        have hTh := Lib.hid hT
        clear hT
        go_wp2_with fail
        go_ret
        exact ⟨rfl, hTh.out⟩
end Go.Proofs.Ytmfagdbocidfjaa
