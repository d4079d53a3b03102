import Derived.Test.YtmfagdbocidfjaaV24
import Derived.Test.YtmfagdbocidfjaaV23
import Derived.Lib.BufferMore
import Derived.Test.YtmfagdbocidfjaaV27
import Derived.Deep.QuietTactic
import Derived.StillTailTactics
/- Numbers written behind bytes. Conditions: the bytes read as a row. -/
namespace Go.Proofs.Ytmfagdbocidfjaa
open Go.RowKit
set_option maxRecDepth 100000 in
theorem exec_appendV {P : Program} {o : Oper} {a : Act} {w w' : World} {v x r : Value} (s y : Operand) (t u : TypeId) (ho : o.op = .call { callee := .builtin .append, args := #[s, y], argTypes := #[t, u] })
    (hs : a.eval s = v) (hx : a.eval y = x) (hr : (Builtin.append_ #[t, u] o.type #[v, x]).run P w = .ok r w') : (execOp a.eval o).run P w = .ok (.value r) w' := by
  unfold execOp
  simp only [ho, resolve, invoke, builtin, Sem.run_bind, Sem.run_pure, Result.andThen_ok, List.map_toArray, List.map_cons, List.map_nil, hs, hx, hr]
set_option maxRecDepth 100000 in
theorem wpList_app_runV {P : Program} {ops : Array Oper} {rest : List Oper} {o : Oper} {a : Act} {w w' : World} {Q : Exit → Act → World → Prop} {v xv r : Value} (hgd : o.guard = none) (s x : Operand) (t u : TypeId)
    (ho : o.op = .call { callee := .builtin .append, args := #[s, x], argTypes := #[t, u] }) (hs : a.eval s = v) (hx : a.eval x = xv)
    (hr : (Builtin.append_ #[t, u] o.type #[v, xv]).run P w = .ok r w') (h : wpList P ops Q rest (a.put o.dst r) w') : wpList P ops Q (o :: rest) a w :=
  wpList_plain hgd fun _ hK => by
    unfold Oper.wp
    rw [exec_appendV s x t u ho hs hx hr]
    exact hK _ _ h
set_option maxRecDepth 100000 in
/-- append(s, p...) -/
theorem info_u8 : (Try.prog.info? 5).map (fun i => (i.zero, i.size, i.bytes)) = some (some (.int .u8 0), 1, 1) := by kernel_rfl
set_option maxRecDepth 100000 in
/-- a slice cut at its length: what is appended goes to a new block -/
theorem VAt.full {W : World} {lo : Nat} {T : TypeId} {sz : Nat} {b off n cap : Nat} {xs : List Value} (h : VAt W lo T sz (.slice (some ⟨b, off, none⟩) n cap) n xs) : VAt W lo T sz (.slice (some ⟨b, off, none⟩) n n) n xs := by
  refine ⟨h.1, h.2.1, ?_⟩
  rcases h.2.2 with ⟨h2, _⟩ | ⟨b', off', cap', C, hv, h2, h3, h4, h5, h6, h7⟩
  · cases h2
  · cases hv
    exact .inr ⟨b, off, n, C, rfl, h2, h3, Nat.le_refl _, by omega, fun hn => by
      have := h6 (by omega)
      have := Nat.mul_le_mul_right sz h4
      omega, h7⟩
def bytesOf (l : List Int) : List Value := l.map fun x => .int .u8 x
/-- what such a call gives: the bytes, and some more behind them, in a new block -/
def PutRow (W : World) (n : Nat) (xs : List Value) (l : List Int) (e : Ending) (W' : World) : Prop := ∃ v', e = .returned v' ∧ VAt W' W.heap.size 5 1 v' (n + l.length) (xs ++ bytesOf l) ∧ Below W.heap.size W W'
def be4 (x : Int) : List Int := [x / 16777216 % 256, x / 65536 % 256, x / 256 % 256, x % 256]
set_option maxRecDepth 100000 in
theorem VAt.rebase {W : World} {lo lo' : Nat} {T : TypeId} {sz : Nat} {v : Value} {n : Nat} {xs : List Value} (h : VAt W lo T sz v n xs) (hf : ∀ b, v.ownBlock = some b → lo' ≤ b) : VAt W lo' T sz v n xs := by
  refine ⟨h.1, h.2.1, ?_⟩
  rcases h.2.2 with h | ⟨b, off, cap, C, rfl, h2, h3⟩
  · exact .inl h
  · exact .inr ⟨b, off, cap, C, rfl, hf b rfl, h3⟩
set_option maxRecDepth 100000 in
theorem bytesOf_length (l : List Int) : (bytesOf l).length = l.length := by unfold bytesOf; simp
set_option maxRecDepth 100000 in
theorem bytesOf_one (l : List Int) : ∀ u ∈ bytesOf l, u.oneCell' = true := fun u hu => by
  unfold bytesOf at hu
  obtain ⟨x, _, rfl⟩ := List.mem_map.1 hu
  rfl
set_option maxRecDepth 100000 in
theorem v_put (w : World) (v : Value) (n lo : Nat) (xs : List Value) (h : VAt w lo 5 1 v n xs) (hf : ∀ s k cap, v = .slice s k cap → cap = n) (l : List Int) (hl : 0 < l.length) (hn : n + l.length ≤ 1000000) (ty : TypeId) :
    ∃ v' W', (Builtin.append_ #[71, 71] ty #[v, .slice (some ⟨w.heap.size, 0, none⟩) l.length l.length]).run Try.prog (w.alloc (.cells (bytesOf l).toArray 5)) = .ok v' W' ∧ PutRow w n xs l (.returned v') W' := by
  have hB : Below w.heap.size w (w.alloc (.cells (bytesOf l).toArray 5)) := (Below.refl _ _).alloc (Nat.le_refl _) _
  have hsz : (w.alloc (.cells (bytesOf l).toArray 5)).heap.size = w.heap.size + 1 := by show (w.heap.push _).size = _; rw [Array.size_push]
  have hblk : (w.alloc (.cells (bytesOf l).toArray 5)).heap[w.heap.size]? = some (.cells (bytesOf l).toArray 5 (0, 0)) := by
    show (w.heap.push _)[w.heap.size]? = _
    simp
  have h1 : VAt (w.alloc (.cells (bytesOf l).toArray 5)) 0 5 1 v n xs := (h.below hB).base (Nat.zero_le _)
  obtain ⟨v', W', hr, hv, hg, hs, hfull⟩ := v_app (P := Try.prog) (S := 71) (T := 5) Try.underlying71 info_u8 rfl (by decide) (by decide) h1 (Nat.zero_le _) ⟨w.heap.size, 0, none⟩ l.length l.length (bytesOf l) (by rw [bytesOf_length]; omega) (fun j u hj => by
    have : (w.alloc (.cells (bytesOf l).toArray 5)).cell? ⟨w.heap.size, j, none⟩ = some u := by rw [cell_of_block hblk]; simpa using hj
    by_cases hj0 : j = 0
    · subst hj0; simpa [Addr.add] using this
    · simpa [Addr.add, hj0] using this) (bytesOf_one l) hn ty
  obtain ⟨hb, hfr⟩ := hfull (fun s k cap e => by have := hf s k cap e; omega)
  exact ⟨v', W', hr, v', rfl, hv.rebase (fun b hb => by have := hfr b hb; omega), hB.trans (hb.mono (by omega))⟩
set_option maxRecDepth 100000 in
set_option maxHeartbeats 1000000 in
theorem v_put32 (v : Value) (n : Nat) (xs : List Value) (x : Int) (lo : Nat) (w : World) (h : VAt w lo 5 1 v n xs) (hn : n ≤ 100000) :
    Calls Try.prog 52 #[v, .int .u32 x] w (PutRow w n xs (be4 x)) := by
  have hl : (be4 x).length = 4 := rfl
  rcases h.2.2 with ⟨rfl, rfl⟩ | ⟨b, off, cap, C, rfl, h2, h3, h4, h5, h6, h7⟩
  · obtain ⟨v', W', hr, hp⟩ := v_put w _ 0 lo xs h (fun s k cap e => by cases e; rfl) (be4 x) (by rw [hl]; decide) (by omega) 71
    have hrh := Lib.hid hr
    have hph := Lib.hid hp
    clear h hr hp
    go_enter Try.func52, Try.ntmps52
    go_wp2_with (at_builtin; refine wpList_app_runV rfl (.tmp 10) (.tmp 22) _ _ rfl rfl rfl hrh.out ?_)
    go_ret
    exact hph.out
  · obtain ⟨v', W', hr, hp⟩ := v_put w _ n lo xs h.full (fun s k cap e => by cases e; rfl) (be4 x) (by rw [hl]; decide) (by omega) 71
    have hrh := Lib.hid hr
    have hph := Lib.hid hp
    clear h h2 h3 h6 h7 hr hp
    go_enter Try.func52, Try.ntmps52
    go_wp2_with (at_builtin; refine wpList_app_runV rfl (.tmp 10) (.tmp 22) _ _ rfl rfl rfl hrh.out ?_)
    go_ret
    exact hph.out
set_option maxRecDepth 100000 in
theorem bytesOf_app (a b : List Int) : bytesOf (a ++ b) = bytesOf a ++ bytesOf b := by unfold bytesOf; simp
set_option maxRecDepth 100000 in
theorem PutRow.trans {w w1 : World} {n : Nat} {xs : List Value} {v1 : Value} {a b : List Int} {e : Ending} {w2 : World} (_h1 : VAt w1 w.heap.size 5 1 v1 (n + a.length) (xs ++ bytesOf a)) (hB : Below w.heap.size w w1) (h2 : PutRow w1 (n + a.length) (xs ++ bytesOf a) b e w2) : PutRow w n xs (a ++ b) e w2 := by
  obtain ⟨v', rfl, hv, hB2⟩ := h2
  refine ⟨v', rfl, ?_, hB.trans (hB2.mono hB.size)⟩
  rw [bytesOf_app, ← List.append_assoc, List.length_append, ← Nat.add_assoc]
  exact hv.base hB.size
def be8 (x : Int) : List Int := be4 (x / 4294967296 % 4294967296) ++ be4 (x % 4294967296)
def be2 (x : Int) : List Int := [x / 256 % 256, x % 256]
set_option maxRecDepth 100000 in
set_option maxHeartbeats 1000000 in
theorem v_put64 (v : Value) (n : Nat) (xs : List Value) (x : Int) (lo : Nat) (w : World) (h : VAt w lo 5 1 v n xs) (hn : n ≤ 90000) :
    Calls Try.prog 112 #[v, .int .u64 x] w (PutRow w n xs (be8 x)) := by
  obtain ⟨s, cap, rfl, _, _⟩ := h.form
  have hh := Lib.hid h
  clear h
  go_enter Try.func112, Try.ntmps112
  go_wp2_with fail
  refine (v_put32 _ n xs _ lo w hh.out (by omega)).mono ?_
  rintro e w1 ⟨v1, rfl, hv1, hB1⟩
  obtain ⟨s1, cap1, rfl, _, _⟩ := hv1.form
  have hv1h := Lib.hid hv1
  have hB1h := Lib.hid hB1
  clear hv1 hB1
  go_wp2_with fail
  refine (v_put32 _ (n + (be4 (x / 4294967296 % 4294967296)).length) _ _ w.heap.size w1 hv1h.out (by show n + 4 ≤ _; omega)).mono ?_
  rintro e w2 h2
  have hp := Lib.hid (PutRow.trans hv1h.out hB1h.out h2)
  obtain ⟨v2, rfl, _, _⟩ := h2
  go_wp2_with fail
  go_ret
  exact hp.out
set_option maxRecDepth 100000 in
set_option maxHeartbeats 1000000 in
theorem v_put16 (v : Value) (n : Nat) (xs : List Value) (x : Int) (lo : Nat) (w : World) (h : VAt w lo 5 1 v n xs) (hn : n ≤ 100000) :
    Calls Try.prog 51 #[v, .int .u16 x] w (PutRow w n xs (be2 x)) := by
  have hl : (be2 x).length = 2 := rfl
  rcases h.2.2 with ⟨rfl, rfl⟩ | ⟨b, off, cap, C, rfl, h2, h3, h4, h5, h6, h7⟩
  · obtain ⟨v', W', hr, hp⟩ := v_put w _ 0 lo xs h (fun s k cap e => by cases e; rfl) (be2 x) (by rw [hl]; decide) (by omega) 71
    have hrh := Lib.hid hr
    have hph := Lib.hid hp
    clear h hr hp
    go_enter Try.func51, Try.ntmps51
    go_wp2_with (at_builtin; refine wpList_app_runV rfl (.tmp 10) (.tmp 16) _ _ rfl rfl rfl hrh.out ?_)
    go_ret
    exact hph.out
  · obtain ⟨v', W', hr, hp⟩ := v_put w _ n lo xs h.full (fun s k cap e => by cases e; rfl) (be2 x) (by rw [hl]; decide) (by omega) 71
    have hrh := Lib.hid hr
    have hph := Lib.hid hp
    clear h h2 h3 h6 h7 hr hp
    go_enter Try.func51, Try.ntmps51
    go_wp2_with (at_builtin; refine wpList_app_runV rfl (.tmp 10) (.tmp 16) _ _ rfl rfl rfl hrh.out ?_)
    go_ret
    exact hph.out
end Go.Proofs.Ytmfagdbocidfjaa

/- Lists of shards: what lies in the blocks; a copy of one. -/
namespace Go.Proofs.Ytmfagdbocidfjaa
open Go.RowKit
/-- a list of shards as cells: a number and a slice of two bytes each -/
def shC (I G c : Nat → Nat) : Nat → List Value
  | 0 => []
  | n + 1 => shC I G c n ++ [.int .i64 (I n : Nat), .slice (some ⟨G n, 0, none⟩) 2 (c n)]
set_option maxRecDepth 100000 in
theorem shC_len (I G c : Nat → Nat) : ∀ n, (shC I G c n).length = n * 2
  | 0 => rfl
  | n + 1 => by
    unfold shC
    rw [List.length_append, shC_len I G c n]
    show n * 2 + 2 = (n + 1) * 2
    omega
set_option maxRecDepth 100000 in
theorem shC_one (I G c : Nat → Nat) : ∀ n, ∀ u ∈ shC I G c n, u.oneCell' = true
  | 0, u, h => by cases h
  | n + 1, u, h => by
    unfold shC at h
    rcases List.mem_append.1 h with h | h
    · exact shC_one I G c n u h
    · rcases List.mem_cons.1 h with rfl | h
      · rfl
      · rcases List.mem_cons.1 h with rfl | h
        · rfl
        · cases h
set_option maxRecDepth 100000 in
theorem shC_get (I G c : Nat → Nat) : ∀ n j, j < n → (shC I G c n)[j * 2]? = some (.int .i64 (I j : Nat)) ∧ (shC I G c n)[j * 2 + 1]? = some (.slice (some ⟨G j, 0, none⟩) 2 (c j))
  | 0, j, h => by omega
  | n + 1, j, h => by
    have hl := shC_len I G c n
    unfold shC
    by_cases hj : j < n
    · rw [List.getElem?_append_left (by omega), List.getElem?_append_left (by omega)]
      exact shC_get I G c n j hj
    · obtain rfl : j = n := by omega
      rw [List.getElem?_append_right (by omega), List.getElem?_append_right (by omega), hl, Nat.sub_self, show j * 2 + 1 - j * 2 = 1 by omega]
      exact ⟨rfl, rfl⟩
/-- a list of n shards, each with two bytes -/
def SdAt (w : World) (lo : Nat) (v : Value) (n : Nat) (I G c : Nat → Nat) (V : Nat → Nat → Nat) : Prop :=
  VAt w lo 139 2 v n (shC I G c n) ∧ ∀ j, j < n → BRow w (G j) 2 (V j) ∧ 2 ≤ c j ∧ c j ≤ maxLen
set_option maxRecDepth 100000 in
theorem VAt.sdc {w : World} {lo b off cap n : Nat} {I G c : Nat → Nat} (h : VAt w lo 139 2 (.slice (some ⟨b, off, none⟩) n cap) n (shC I G c n)) : SdC b off n I G c w := fun j hj => by
  have hg := shC_get I G c n j hj
  exact ⟨h.cells rfl _ _ hg.1, by have := h.cells rfl _ _ hg.2; rw [← Nat.add_assoc] at this; exact this⟩
set_option maxRecDepth 100000 in
theorem SdAt.below {w w' : World} {lo n : Nat} {v : Value} {I G c : Nat → Nat} {V : Nat → Nat → Nat} (h : SdAt w lo v n I G c V) (hb : Below w.heap.size w w') : SdAt w' lo v n I G c V :=
  ⟨h.1.below hb, fun j hj => ⟨(h.2 j hj).1.below hb (h.2 j hj).1.lt, (h.2 j hj).2⟩⟩
set_option maxRecDepth 100000 in
theorem info_sd : (Try.prog.info? 139).map (fun i => (i.zero, i.size, i.bytes)) = some (some (.agg #[.int .i64 0, .slice none 0 0]), 2, 32) := by kernel_rfl
def SclPost (w : World) (n : Nat) (I G c : Nat → Nat) (V : Nat → Nat → Nat) (e : Ending) (w' : World) : Prop := ∃ b' off' cap', e = .returned (.slice (some ⟨b', off', none⟩) n cap') ∧ SdAt w' w.heap.size (.slice (some ⟨b', off', none⟩) n cap') n I G c V ∧ n ≤ cap' ∧ Below w.heap.size w w'
set_option maxRecDepth 100000 in
set_option maxHeartbeats 4000000 in
theorem sd_clone (b off n cap lo : Nat) (I G c : Nat → Nat) (V : Nat → Nat → Nat) (w : World) (h : SdAt w lo (.slice (some ⟨b, off, none⟩) n cap) n I G c V) (hn : n ≤ 1000) (hn0 : 0 < n) :
    Calls Try.prog 109 #[.slice (some ⟨b, off, none⟩) n cap] w (SclPost w n I G c V) := by
  have hB7 : Below w.heap.size w (w.alloc (.cells #[] 139)) := (Below.refl _ _).alloc (Nat.le_refl _) _
  have hv0 : VAt (w.alloc (.cells #[] 139)) w.heap.size 139 2 (.slice (some ⟨w.heap.size, 0, none⟩) 0 0) 0 [] := ⟨rfl, by simp, .inr ⟨w.heap.size, 0, 0, #[], rfl, Nat.le_refl _, Array.getElem?_push_size (xs := w.heap), Nat.le_refl _, by unfold maxLen; omega, fun h => absurd h (by omega), fun j u hj => by simp at hj⟩⟩
  have h7 := h.1.below hB7
  obtain ⟨v', W', hr, hv, hg, hf, hbl⟩ := v_app (P := Try.prog) (S := 112) (T := 139) Try.underlying112 info_sd rfl (by decide) (by decide) hv0 hB7.size ⟨b, off, none⟩ n cap (shC I G c n) (shC_len _ _ _ _) (fun j u hj => by
    rw [Addr.add_lit]
    exact h7.cells rfl j u hj) (shC_one _ _ _ _) (by omega) 112
  rw [Nat.zero_add, List.nil_append] at hv
  obtain ⟨b', o', c', rfl⟩ : ∃ b' o' c', v' = .slice (some ⟨b', o', none⟩) n c' := by
    rcases hv.2.2 with ⟨_, h0⟩ | ⟨b', o', c', _, e, _⟩
    · omega
    · exact ⟨b', o', c', e⟩
  have hB : Below w.heap.size w W' := below_grown hB7 (Nat.le_refl _) hg (fun p hp => by cases hp; exact Nat.le_refl _)
  obtain ⟨_, _, e5, hc5, _⟩ := hv.form
  cases e5
  have hend : Hid (SclPost w n I G c V (.returned (.slice (some ⟨b', o', none⟩) n c')) W') := hide ⟨b', o', c', rfl, ⟨hv, fun j hj => ⟨(h.2 j hj).1.below hB (h.2 j hj).1.lt, (h.2 j hj).2⟩⟩, hc5, hB⟩
  have hrh := Lib.hid hr
  clear h hB7 hv0 h7 hr hv hg hf hbl hB hc5
  have hnil : (binOp .eql 112 (.slice (some ⟨b, off, none⟩) n cap) (.slice none 0 0)).run Try.prog w = .ok (.bool false) w := Lib.run_eql_slice_some_nil w _ n cap Try.underlying112
  go_enter Try.func109, Try.ntmps109
  go_wp2_with (at_builtin; refine wpList_app_runV rfl (.tmp 5) (.tmp 6) _ _ rfl rfl rfl hrh.out ?_)
  go_ret
  exact hend.out
end Go.Proofs.Ytmfagdbocidfjaa

/- rs's Encode: the parity rows. Conditions: the code's block, the tables' block, what the rows read as. -/
namespace Go.Proofs.Ytmfagdbocidfjaa
open Go.RowKit
/-- the parity rows -/
def paF (k : Nat) (V : Nat → Nat → Nat) : Nat → Nat → Nat := mlF (pkF (rsF k) (fun i => k + i)) V k
set_option maxRecDepth 100000 in
theorem rs_bd (k : Nat) : Bd2 (rsF k) := fun r c => by unfold rsF; exact ml_bd _ _ _ _ _
attribute [local irreducible] gexp gtbl glog rmul rinv rpow zexp mixF blk flF BRow MRow MAt By IsGf ivS rsF mlF RowsAt
set_option maxRecDepth 100000 in
set_option maxHeartbeats 4000000 in
theorem s_encode (c p k m n : Nat) (s : Option Addr) (cap : Nat) (V : Nat → Nat → Nat) (w : World) (hc : CodeAt w c p k m) (hp : IsGf w p) (hs : RowsAt w s k n V) (hV : Bd2 V) (h0 : 1 ≤ k) (hkm : k + m ≤ 255) (hn : n ≤ 1200) :
    Calls Try.prog 83 #[.pointer (some ⟨c, 0, none⟩), .slice s k cap] w (ApPost2 w m n (paF k V)) := by
  have hz := zeroM
  have hph := Lib.hid hp
  have hpl := hp.lt
  have hsh := Lib.hid hs
  have hVh := Lib.hid hV
  obtain ⟨g, hb, hm⟩ := hc
  have hcl : c < w.heap.size := (Array.getElem?_eq_some_iff.1 hb).1
  have hmh := Lib.hid hm
  have hbh := Lib.hid hb
  have klen := Lib.hid (fun y (h : RowsAt y s k n V) => s_length n k s cap y h.lens (by omega) (by omega) hn)
  have kpk := Lib.hid (fun y (s2 : Option Addr) (c2 : Nat) (ha : MAt y (some ⟨g, 0, none⟩) (k + m) k (rsF k)) (hr : ZAt y .i64 s2 m (fun i => (k + i : Nat))) => m_pick (k + m) k m m (some ⟨g, 0, none⟩) s2 ((k + m) * k) c2 (rsF k) (fun i => (k + i : Nat)) y ha hr hkm (by omega) (by omega) (Nat.le_refl _) (Nat.le_refl _) (fun j hj => by omega) (fun h => absurd h (Nat.lt_irrefl _)))
  have kap := Lib.hid (fun y g2 (hy : IsGf y p) (ha : MAt y (some ⟨g2, 0, none⟩) m k (pkF (rsF k) (fun i => k + i))) (hr : RowsAt y s k n V) => m_apply2 p m k n (some ⟨g2, 0, none⟩) s (m * k) cap (pkF (rsF k) (fun i => k + i)) V y hy ha hr (fun r c => rs_bd k _ _) hV (by omega) (by omega) (Nat.le_refl _) (by omega) (fun e => by omega))
  have hpa : Hid (mlF (pkF (rsF k) (fun i => k + i)) V k = paF k V) := hide (by unfold paF; rfl)
  rw [hpa.out] at kap
  obtain ⟨R, hR⟩ : ∃ R, k + m = R := ⟨_, rfl⟩
  rw [hR] at kpk hmh hbh
  obtain ⟨N, hN⟩ : ∃ N, R * k = N := ⟨_, rfl⟩
  rw [hN] at kpk hbh
  obtain ⟨M, hM⟩ : ∃ M, m * k = M := ⟨_, rfl⟩
  rw [hM] at kap
  have hMh := Lib.hid hM
  have t0 := bne_cast_f k
  have hkR : k ≤ R := by omega
  have hmR : m ≤ R := by omega
  have hR2 : R ≤ 255 := by omega
  have hcell : Hid (∀ y i v, Below w.heap.size w y → (#[.int .i64 (k : Nat), .int .i64 (m : Nat), .pointer (some ⟨p, 0, none⟩), .int .i64 (R : Nat), .int .i64 (k : Nat), .slice (some ⟨g, 0, none⟩) N N] : Array Value)[i]? = some v → y.cell? ⟨c, i, none⟩ = some v) := hide (fun y i v hy h => by
    have := hbh.out
    rw [← hy.block c hcl] at this
    exact (cell_of_block this).trans h)
  clear hp hs hV hb hm hN hM hpa
  have c0 := hcell.out w 0 _ (Below.refl _ _) rfl
  have c1 := hcell.out w 1 _ (Below.refl _ _) rfl
  go_enter Try.func83, Try.ntmps83
  go_wp2_with fail
  refine (klen.out w hsh.out).mono ?_
  rintro e w1 ⟨rfl, rfl⟩
  go_upto_region 8 with (fail)
  clear c0 c1
  go_loopw [8, 31] (fun v8 v31 wr => ∃ i : Nat, i ≤ m ∧ v31 = .int .i64 (i : Nat) ∧ Hid (OwnZ wr w.heap.size 3 .i64 v8 i (fun j => (k + j : Nat))) ∧ Hid (Below w.heap.size w wr)) (fun _ v31 _ => m - (intOf v31).toNat)
  case atStart => exact ⟨0, by omega, rfl, hide (OwnZ.nil _ _ _ _ _), hide (Below.refl _ _)⟩
  case round =>
    obtain ⟨i, hi, rfl, ho, hB⟩ := hrel
    have hsz := hB.out.size
    by_cases him : i < m
    · have i1 : (i : Int) < (m : Int) := by omega
      have c0 := hcell.out wr 0 _ hB.out rfl
      have hki := Lib.hid (show (k : Int) + (i : Int) = ((k + i : Nat) : Int) by omega)
      go_wp2_with (at_builtin; refine wpList_snocX Try.underlying55 infoInt (by decide) rfl (.tmp 34) (.tmp 41) rfl wr _ w.heap.size i (fun j => (k + j : Nat)) ((k : Int) + (i : Int)) hki.out rfl rfl rfl ho.out (by omega) hsz ?_; intro v' w6 ho6 hgr; have hO6 := Lib.hid ho6; have hL6 := Lib.hid (below_grown hB.out (Nat.le_refl _) hgr (fun b hb => (ho.out.lt b hb).1)); clear ho6 hgr)
      go_roundw
      case rel => exact ⟨i + 1, by omega, by go_num, hO6, hL6⟩
      case measure => simp [intOf]; omega
    · obtain rfl : i = m := by omega
      have i1 : decide ((i : Int) < (i : Int)) = false := by simp
      obtain ⟨s2, cap2, rfl, z2, _, _, _⟩ := ho.out.open
      have z2h := Lib.hid z2
      have c3 := hcell.out wr 3 _ hB.out rfl
      have c4 := hcell.out wr 4 _ hB.out rfl
      have c5 := hcell.out wr 5 _ hB.out rfl
      clear ho z2
      go_wp2_with fail
      refine (kpk.out wr s2 cap2 (hmh.out.below hB.out) z2h.out).mono ?_
      rintro e w3 (⟨_, g2, rfl, hg2, hm2, hb3⟩ | ⟨h, _⟩)
      · rw [hMh.out]
        have hB3 := Lib.hid (hB.out.trans (hb3.mono hsz))
        have hm2h := Lib.hid (hm2.congr (F' := pkF (rsF k) (fun i => k + i)) (fun r c _ _ => rfl))
        have hw3 := hB3.out.size
        have hg2l := hm2.lt
        clear hm2 hb3 c3 c4 c5
        go_upto_region 13 with (fail)
        have x0 := last_block0 w3 (.cells #[.int .i64 (i : Nat), .int .i64 (k : Nat), .slice (some ⟨g2, 0, none⟩) M M] 188) _ rfl
        have x2 := below_one w3 (.cells #[.int .i64 (i : Nat), .int .i64 (k : Nat), .slice (some ⟨g2, 0, none⟩) M M] 188)
        generalize World.alloc w3 _ = X at *
        have hBX := Lib.hid (hB3.out.trans (x2.mono hw3))
        have hBd : Hid (Below w.heap.size w X.drew) := hide (below_drewN hBX.out 1)
        have hmX := Lib.hid ((hm2h.out.below x2 hg2l).mat.below (below_drewN (Below.refl _ _) 1))
        obtain ⟨q, hq⟩ : ∃ q, w3.heap.size = q := ⟨_, rfl⟩
        rw [hq] at x0 ⊢
        have hqX : q < X.heap.size := (Array.getElem?_eq_some_iff.1 x0).1
        have hS : Hid (∀ y, Below X.heap.size X y → (fun y : World => y.cell? ⟨c, 2, none⟩ = some (.pointer (some ⟨p, 0, none⟩)) ∧ y.cell? ⟨q, 0, none⟩ = some (.int .i64 (i : Nat)) ∧ y.cell? ⟨q, 1, none⟩ = some (.int .i64 (k : Nat)) ∧ y.cell? ⟨q, 2, none⟩ = some (.slice (some ⟨g2, 0, none⟩) M M)) y) := hide (fun y hy => by
          have x1 := (hy.block q hqX).trans x0
          exact ⟨hcell.out y 2 _ (hBX.out.trans (hy.mono hBX.out.size)) rfl, (cell_of_block x1).trans rfl, (cell_of_block x1).trans rfl, (cell_of_block x1).trans rfl⟩)
        clear x0 x2 hq
        refine h_begin 11 (fun y : World => y.cell? ⟨c, 2, none⟩ = some (.pointer (some ⟨p, 0, none⟩)) ∧ y.cell? ⟨q, 0, none⟩ = some (.int .i64 (i : Nat)) ∧ y.cell? ⟨q, 1, none⟩ = some (.int .i64 (k : Nat)) ∧ y.cell? ⟨q, 2, none⟩ = some (.slice (some ⟨g2, 0, none⟩) M M)) rfl (by kernel_rfl) (hS.out _ (below_drewN (Below.refl _ _) 1)) ?_
        have hHeld : (fun y : World => y.cell? ⟨c, 2, none⟩ = some (.pointer (some ⟨p, 0, none⟩)) ∧ y.cell? ⟨q, 0, none⟩ = some (.int .i64 (i : Nat)) ∧ y.cell? ⟨q, 1, none⟩ = some (.int .i64 (k : Nat)) ∧ y.cell? ⟨q, 2, none⟩ = some (.slice (some ⟨g2, 0, none⟩) M M)) X.drew := hS.out _ (below_drewN (Below.refl _ _) 1)
        first
          | (refine h_run (i := 0) (v := ?_) hHeld rfl (by kernel_rfl) (by kernel_rfl) (by kernel_rfl) ?_ ?_ ?_
             rotate_left
             · rfl
             · (intro x hSx; (try dsimp only at hSx); go_simp <;> with_reducible rfl)
             simp only [Act.put, List.setIfInBounds_toArray, List.set_cons_zero, List.set_cons_succ])
          | (refine h_skip (i := 0) hHeld rfl (by kernel_rfl) (by kernel_rfl) (by kernel_rfl) ?_ ?_
             · rfl
             simp only [Act.put, List.setIfInBounds_toArray, List.set_cons_zero, List.set_cons_succ])
        first
          | (refine h_run (i := 1) (v := ?_) hHeld rfl (by kernel_rfl) (by kernel_rfl) (by kernel_rfl) ?_ ?_ ?_
             rotate_left
             · rfl
             · (intro x hSx; (try dsimp only at hSx); go_simp <;> with_reducible rfl)
             simp only [Act.put, List.setIfInBounds_toArray, List.set_cons_zero, List.set_cons_succ])
          | (refine h_skip (i := 1) hHeld rfl (by kernel_rfl) (by kernel_rfl) (by kernel_rfl) ?_ ?_
             · rfl
             simp only [Act.put, List.setIfInBounds_toArray, List.set_cons_zero, List.set_cons_succ])
        first
          | (refine h_run (i := 2) (v := ?_) hHeld rfl (by kernel_rfl) (by kernel_rfl) (by kernel_rfl) ?_ ?_ ?_
             rotate_left
             · rfl
             · (intro x hSx; (try dsimp only at hSx); go_simp <;> with_reducible rfl)
             simp only [Act.put, List.setIfInBounds_toArray, List.set_cons_zero, List.set_cons_succ])
          | (refine h_skip (i := 2) hHeld rfl (by kernel_rfl) (by kernel_rfl) (by kernel_rfl) ?_ ?_
             · rfl
             simp only [Act.put, List.setIfInBounds_toArray, List.set_cons_zero, List.set_cons_succ])
        first
          | (refine h_run (i := 3) (v := ?_) hHeld rfl (by kernel_rfl) (by kernel_rfl) (by kernel_rfl) ?_ ?_ ?_
             rotate_left
             · rfl
             · (intro x hSx; (try dsimp only at hSx); go_simp <;> with_reducible rfl)
             simp only [Act.put, List.setIfInBounds_toArray, List.set_cons_zero, List.set_cons_succ])
          | (refine h_skip (i := 3) hHeld rfl (by kernel_rfl) (by kernel_rfl) (by kernel_rfl) ?_ ?_
             · rfl
             simp only [Act.put, List.setIfInBounds_toArray, List.set_cons_zero, List.set_cons_succ])
        first
          | (refine h_run (i := 4) (v := ?_) hHeld rfl (by kernel_rfl) (by kernel_rfl) (by kernel_rfl) ?_ ?_ ?_
             rotate_left
             · rfl
             · (intro x hSx; (try dsimp only at hSx); go_simp <;> with_reducible rfl)
             simp only [Act.put, List.setIfInBounds_toArray, List.set_cons_zero, List.set_cons_succ])
          | (refine h_skip (i := 4) hHeld rfl (by kernel_rfl) (by kernel_rfl) (by kernel_rfl) ?_ ?_
             · rfl
             simp only [Act.put, List.setIfInBounds_toArray, List.set_cons_zero, List.set_cons_succ])
        first
          | (refine h_run (i := 5) (v := ?_) hHeld rfl (by kernel_rfl) (by kernel_rfl) (by kernel_rfl) ?_ ?_ ?_
             rotate_left
             · rfl
             · (intro x hSx; (try dsimp only at hSx); go_simp <;> with_reducible rfl)
             simp only [Act.put, List.setIfInBounds_toArray, List.set_cons_zero, List.set_cons_succ])
          | (refine h_skip (i := 5) hHeld rfl (by kernel_rfl) (by kernel_rfl) (by kernel_rfl) ?_ ?_
             · rfl
             simp only [Act.put, List.setIfInBounds_toArray, List.set_cons_zero, List.set_cons_succ])
        clear hHeld
        refine h_call (i := 6) (fun y : World => y.cell? ⟨c, 2, none⟩ = some (.pointer (some ⟨p, 0, none⟩)) ∧ y.cell? ⟨q, 0, none⟩ = some (.int .i64 (i : Nat)) ∧ y.cell? ⟨q, 1, none⟩ = some (.int .i64 (k : Nat)) ∧ y.cell? ⟨q, 2, none⟩ = some (.slice (some ⟨g2, 0, none⟩) M M)) (fun _ h => h) (kap.out X.drew g2 (hph.out.below hBd.out hpl) hmX.out (hsh.out.below hBd.out)) rfl (by kernel_rfl) rfl ?_ ?_
        · go_simp <;> with_reducible rfl
        rintro e w5 ⟨g5, rfl, hg5, hap, hb5⟩
        have hfin : Hid (ApPost2 w i n (paF k V) (.returned (.tuple #[.slice (some ⟨g5, 0, none⟩) i i, .int .i64 0])) w5) := hide ⟨g5, rfl, by have := hBd.out.size; omega, hap, hBd.out.trans (hb5.mono hBd.out.size)⟩
        have hHeld : (fun y : World => y.cell? ⟨c, 2, none⟩ = some (.pointer (some ⟨p, 0, none⟩)) ∧ y.cell? ⟨q, 0, none⟩ = some (.int .i64 (i : Nat)) ∧ y.cell? ⟨q, 1, none⟩ = some (.int .i64 (k : Nat)) ∧ y.cell? ⟨q, 2, none⟩ = some (.slice (some ⟨g2, 0, none⟩) M M)) w5 := hS.out _ ((below_drewN (Below.refl X.heap.size X) 1).trans hb5)
        refine ⟨_, rfl, hHeld, ?_⟩
        clear hap hb5
        first
          | (refine h_run (i := 7) (v := ?_) hHeld rfl (by kernel_rfl) (by kernel_rfl) (by kernel_rfl) ?_ ?_ ?_
             rotate_left
             · rfl
             · (intro x hSx; (try dsimp only at hSx); go_simp <;> with_reducible rfl)
             simp only [Act.put, List.setIfInBounds_toArray, List.set_cons_zero, List.set_cons_succ])
          | (refine h_skip (i := 7) hHeld rfl (by kernel_rfl) (by kernel_rfl) (by kernel_rfl) ?_ ?_
             · rfl
             simp only [Act.put, List.setIfInBounds_toArray, List.set_cons_zero, List.set_cons_succ])
        first
          | (refine h_run (i := 8) (v := ?_) hHeld rfl (by kernel_rfl) (by kernel_rfl) (by kernel_rfl) ?_ ?_ ?_
             rotate_left
             · rfl
             · (intro x hSx; (try dsimp only at hSx); go_simp <;> with_reducible rfl)
             simp only [Act.put, List.setIfInBounds_toArray, List.set_cons_zero, List.set_cons_succ])
          | (refine h_skip (i := 8) hHeld rfl (by kernel_rfl) (by kernel_rfl) (by kernel_rfl) ?_ ?_
             · rfl
             simp only [Act.put, List.setIfInBounds_toArray, List.set_cons_zero, List.set_cons_succ])
        first
          | (refine h_run (i := 9) (v := ?_) hHeld rfl (by kernel_rfl) (by kernel_rfl) (by kernel_rfl) ?_ ?_ ?_
             rotate_left
             · rfl
             · (intro x hSx; (try dsimp only at hSx); go_simp <;> with_reducible rfl)
             simp only [Act.put, List.setIfInBounds_toArray, List.set_cons_zero, List.set_cons_succ])
          | (refine h_skip (i := 9) hHeld rfl (by kernel_rfl) (by kernel_rfl) (by kernel_rfl) ?_ ?_
             · rfl
             simp only [Act.put, List.setIfInBounds_toArray, List.set_cons_zero, List.set_cons_succ])
        first
          | (refine h_run (i := 10) (v := ?_) hHeld rfl (by kernel_rfl) (by kernel_rfl) (by kernel_rfl) ?_ ?_ ?_
             rotate_left
             · rfl
             · (intro x hSx; (try dsimp only at hSx); go_simp <;> with_reducible rfl)
             simp only [Act.put, List.setIfInBounds_toArray, List.set_cons_zero, List.set_cons_succ])
          | (refine h_skip (i := 10) hHeld rfl (by kernel_rfl) (by kernel_rfl) (by kernel_rfl) ?_ ?_
             · rfl
             simp only [Act.put, List.setIfInBounds_toArray, List.set_cons_zero, List.set_cons_succ])
        refine h_done (by kernel_rfl) ?_
        clear hHeld
        go_wp2_with fail
        go_ret2
        exact hfin.out
      · exact absurd h (Nat.lt_irrefl _)
end Go.Proofs.Ytmfagdbocidfjaa
