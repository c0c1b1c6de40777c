/- A key's bytes: what the program's PutKey and the document's compute. -/
import Derived.Test.YtkianpkkligljaaOwn
import Derived.Test.YtkianpkkligljaaOrder
namespace Go.Proofs.Ytkianpkkligljaa
open Go.RowKit

theorem isSize_two (w : World) : Calls Try.prog 41 #[.int .i64 2] w fun e w' => e = .returned (.bool true) ∧ w = w' := by
  go_enter Try.func41, Try.ntmps41
  go_wp2
  go_ret
  exact ⟨rfl, rfl⟩
def lo (n : Int) : UInt8 := UInt8.ofNat (n.toNat % 256)
def hi (n : Int) : UInt8 := UInt8.ofNat (n.toNat / 256)
theorem lo_int {n : Int} (h0 : 0 ≤ n) : ((lo n).toNat : Int) = n % 256 := by unfold lo; simp; omega
theorem hi_int {n : Int} (h0 : 0 ≤ n) (h : n ≤ 65535) : ((hi n).toNat : Int) = n / 256 := by unfold hi; simp; omega

/-- Two bytes of a number, in new memory, and no more. -/
def Put2End (n : Int) (w : World) (e : Ending) (w' : World) : Prop := e = .returned (.tuple #[.slice (some ⟨w.heap.size, 0, none⟩) 2 2, .int .i64 0]) ∧ w' = w.alloc (.cells (vals [lo n, hi n]).toArray 5)
set_option maxHeartbeats 400000 in
theorem put_two (n : Int) (h0 : 0 ≤ n) (h1 : n ≤ 65535) (w : World) : Calls Try.prog 30 #[.int .u64 n, .int .i64 2] w (Put2End n w) := by
  have hmk : ∀ w, (Instr.makeSlice 24 (.int .i64 2) (.int .i64 2)).run Try.prog w = .ok (.slice (some ⟨w.heap.size, 0, none⟩) 2 2) (w.alloc (.cells #[.int .u8 0, .int .u8 0] 5)) := fun _ => by kernel_rfl
  have t : (n / 65536 != 0) = false := by simp; omega
  have HB : Hid (IntKind.u8.wrap (n / 256) = n / 256) := IntWalk.u8_in _ (by omega)
  have HV : Hid (vals [lo n, hi n] = [.int .u8 (n % 256), .int .u8 (n / 256)]) := by
    show vals [lo n, hi n] = _
    simp [vals, lo_int h0, hi_int h0 h1]
  go_enter Try.func30, Try.ntmps30
  go_wp2_with fail
  refine (isSize_two _).mono ?_
  rintro e w' ⟨rfl, rfl⟩
  go_wp2
  go_loopg [27] 2 (fun k i wr => (i = .int .i64 0 ∧ k = 2 ∧ wr = w.alloc (.cells #[.int .u8 0, .int .u8 0] 5)) ∨ (i = .int .i64 1 ∧ k = 1 ∧ wr = w.alloc (.cells #[.int .u8 (n % 256), .int .u8 0] 5)) ∨ (i = .int .i64 2 ∧ k = 0 ∧ wr = w.alloc (.cells #[.int .u8 (n % 256), .int .u8 (n / 256)] 5)))
  case atStart => exact .inl ⟨rfl, rfl, rfl⟩
  case round =>
    rcases hrel with ⟨rfl, rfl, rfl⟩ | ⟨rfl, rfl, rfl⟩ | ⟨rfl, rfl, rfl⟩
    · go_wp2
      go_roundg 1
      case measure => omega
      case rel => exact .inr (.inl ⟨rfl, rfl, rfl⟩)
    · go_wp2
      go_roundg 0
      case measure => omega
      case rel => exact .inr (.inr ⟨rfl, rfl, by first | rfl | (rw [HB.out])⟩)
    · go_wp2
      go_ret2
      exact ⟨rfl, by rw [← HV.out]⟩

def BytesEnd (l : List UInt8) (w : World) (e : Ending) (w' : World) : Prop := ∃ v, e = .returned (.tuple #[v, .int .i64 0]) ∧ OwnB w' w.heap.size v l ∧ Below w.heap.size w w'
theorem len_byte {n : Nat} (h : n ≤ 255) : ((UInt8.ofNat n).toNat : Int) = n := by simp; omega

set_option maxHeartbeats 400000 in
theorem row_any (l : List UInt8) (n : Nat) (hn : l.length = n) (hl : n ≤ 255) (A : Option Addr) (c : Nat) (w : World) (hA : Bs w A l) : Calls Try.prog 31 #[.slice A n c] w (BytesEnd (UInt8.ofNat n :: l) w) := by
  subst hn
  have hlt : w.heap.size ≤ w.heap.size := Nat.le_refl _
  have wl : IntKind.u8.wrap (l.length : Int) = (l.length : Int) := IntWalk.u8_in _ (by omega)
  have own0 := OwnB.lit w w.heap.size [UInt8.ofNat l.length] hlt (by simp)
  have hv : vals [UInt8.ofNat l.length] = [.int .u8 (l.length : Int)] := by simp [vals]; omega
  rw [hv] at own0
  have src := hA.src.below (below_alloc1 w (.cells #[.int .u8 (l.length : Int)] 5))
  go_enter Try.func31, Try.ntmps31
  go_wp2_with (at_builtin; refine wpList_app rfl rfl Try.underlying24 info_u8 rfl (by omega) rfl own0 rfl (by simp [vals]) src (vals_one _) (by simp; omega) (by simp; omega) (by simp) ?_; intro v1 w1 happ)
  go_ret2
  refine ⟨v1, rfl, ?_, happ.below own0 (below_alloc1 _ _) (by simp)⟩
  have := happ.own
  simpa [OwnB, vals, Nat.add_comm] using this

/-- As above, the memory not named. -/
theorem put_bytes (n : Int) (h0 : 0 ≤ n) (h1 : n ≤ 65535) (w : World) : Calls Try.prog 30 #[.int .u64 n, .int .i64 2] w (BytesEnd [lo n, hi n] w) :=
  (put_two n h0 h1 w).mono fun e w' ⟨he, hw⟩ => by
    subst hw
    exact ⟨_, he, OwnB.lit w _ [lo n, hi n] (Nat.le_refl _) (by simp), below_alloc1 _ _⟩
theorem one_byte {u : Int} (h0 : 0 ≤ u) (h1 : u ≤ 255) : vals [UInt8.ofNat u.toNat] = [.int .u8 u] := by simp [vals]; omega
/-- One byte more. -/
theorem OwnB.app {P : Program} {w w' : World} {base : Nat} {v v' : Value} {l r : List UInt8} {n m : Nat} (h : App P w base 5 1 v n m (vals l ++ vals r) v' w') (hn : n = l.length) (hm : m = r.length) : OwnB w' base v' (l ++ r) := by
  subst hn hm
  have := h.own
  simpa [OwnB, vals] using this

/-- A key's bytes. -/
def keyTail (u : Int) (s : ByteArray) (c : Int) : List UInt8 := if u = 2 then UInt8.ofNat s.size :: s.data.toList else if u = 3 then [UInt8.ofNat c.toNat] else []
def keyBytes (i u : Int) (s : ByteArray) (c : Int) : List UInt8 := [lo i, hi i, UInt8.ofNat u.toNat] ++ keyTail u s c
def KeyEnd (ok : Bool) (l : List UInt8) (w : World) (e : Ending) (w' : World) : Prop :=
  (ok = false ∧ e = .returned (.tuple #[.slice none 0 0, .int .i64 2]) ∧ Below w.heap.size w w') ∨ (ok = true ∧ BytesEnd l w e w')

theorem keyBox_cells (w : World) (i u : Int) (s : ByteArray) (c : Int) :
    (w.alloc (.cells #[.int .i64 i, .int .u8 u, .string s, .int .i64 c] 23)).cell? ⟨w.heap.size, 0, none⟩ = some (.int .i64 i) ∧ (w.alloc (.cells #[.int .i64 i, .int .u8 u, .string s, .int .i64 c] 23)).cell? ⟨w.heap.size, 1, none⟩ = some (.int .u8 u) ∧ (w.alloc (.cells #[.int .i64 i, .int .u8 u, .string s, .int .i64 c] 23)).cell? ⟨w.heap.size, 2, none⟩ = some (.string s) ∧ (w.alloc (.cells #[.int .i64 i, .int .u8 u, .string s, .int .i64 c] 23)).cell? ⟨w.heap.size, 3, none⟩ = some (.int .i64 c) := by
  refine ⟨by go_simp, by go_simp, by go_simp, by go_simp⟩

set_option maxHeartbeats 400000 in
theorem putKey_no (i u : Int) (s : ByteArray) (c : Int) (hs : s.size ≤ maxLen) (h : mayKey i u s c = false) (w : World) :
    Calls Try.prog 8 #[.agg #[.int .i64 i, .int .u8 u, .string s, .int .i64 c]] w (KeyEnd (mayKey i u s c) (keyBytes i u s c) w) := by
  rw [h]
  have C := fun w => h ▸ mayKey_any i u s c hs w
  have HC := Lib.hid C
  clear C h
  go_enter Try.func8, Try.ntmps8
  go_wp2_with fail
  refine (HC.out _).mono ?_
  rintro e w1 ⟨rfl, hb⟩
  have hb1 := below_of (below_alloc1 w (.cells #[.int .i64 i, .int .u8 u, .string s, .int .i64 c] 23)) hb
  clear hb
  go_wp2
  go_ret2
  exact .inl ⟨rfl, rfl, hb1⟩

theorem mayKey_what {i u c : Int} {s : ByteArray} (h : mayKey i u s c = true) : (1 ≤ i ∧ i ≤ 65535) ∧ (u = 1 ∨ (u = 2 ∧ nameB s = true) ∨ (u = 3 ∧ 0 ≤ c ∧ c < 8)) := by
  unfold mayKey at h
  simp only [Bool.and_eq_true, decide_eq_true_eq] at h
  refine ⟨⟨h.1.1, h.1.2⟩, ?_⟩
  by_cases u1 : u = 1
  · exact .inl u1
  · by_cases u2 : u = 2
    · subst u2
      have := h.2
      simp at this
      exact .inr (.inl ⟨rfl, this.1⟩)
    · by_cases u3 : u = 3
      · subst u3
        have := h.2
        simp at this
        exact .inr (.inr ⟨rfl, this.1.2, this.2⟩)
      · have := h.2
        simp [u1, u2, u3] at this
theorem nameB_size {s : ByteArray} (h : nameB s = true) : s.size ≤ 12 := by
  unfold nameB at h
  simp only [Bool.and_eq_true, decide_eq_true_eq] at h
  exact h.1.1.2
/-- A string as new bytes. -/
theorem bytesWorld_bs (w : World) (s : ByteArray) (hs : s.size ≤ 140737488355328) : Bs (Lib.bytesWorld w 5 s) (some ⟨w.heap.size, 0, none⟩) s.data.toList :=
  ⟨by simpa using hs, fun j hj => ⟨_, rfl, by
    have ha : (⟨w.heap.size, 0, none⟩ : Addr).add j = ⟨w.heap.size, j, none⟩ := by unfold Addr.add; split <;> simp_all
    rw [ha, Lib.bytesWorld_cell w 5 s j (by simpa using hj)]
    have hk : j < s.data.size := by simpa using hj
    simp only [List.getD, Array.getElem?_toList, Array.getElem_toList]
    rw [Array.getElem?_eq_getElem hk]
    rfl⟩⟩
theorem bytesWorld_below {B : Nat} {w0 w : World} (h : Below B w0 w) (hB : B ≤ w.heap.size) (s : ByteArray) : Below B w0 (Lib.bytesWorld w 5 s) :=
  h.trans ⟨by unfold Lib.bytesWorld World.freeze; simp; rfl, by unfold Lib.bytesWorld World.freeze; simp, by unfold Lib.bytesWorld World.freeze; simp; rfl, by rw [Lib.bytesWorld_size]; omega, fun k hk => Lib.bytesWorld_at_old w 5 s k (by omega)⟩

set_option maxRecDepth 100000 in
set_option maxHeartbeats 1000000 in
theorem putKey_node (i : Int) (s : ByteArray) (c : Int) (hs : s.size ≤ maxLen) (h : mayKey i 1 s c = true) (w : World) :
    Calls Try.prog 8 #[.agg #[.int .i64 i, .int .u8 1, .string s, .int .i64 c]] w (BytesEnd (keyBytes i 1 s c) w) := by
  have HC := Lib.hid (fun w => h ▸ mayKey_any i 1 s c hs w)
  obtain ⟨⟨i1, i2⟩, hw⟩ := mayKey_what h
  have wi : IntKind.u64.wrap i = i := IntWalk.u64_in _ (by omega)
  clear h hw
  go_enter Try.func8, Try.ntmps8
  go_wp2_with fail
  refine (HC.out _).mono ?_
  rintro e w1 ⟨rfl, hb⟩
  obtain ⟨a0, a1, a2, a3⟩ := keyBox_cells w i 1 s c
  have a0 := cell_below hb a0
  have A1 := Lib.hid (cell_below hb a1)
  have A2 := Lib.hid (cell_below hb a2)
  have A3 := Lib.hid (cell_below hb a3)
  have hb1 := below_of (below_alloc1 w (.cells #[.int .i64 i, .int .u8 1, .string s, .int .i64 c] 23)) hb
  have hz1 : w.heap.size < w1.heap.size := Nat.lt_of_lt_of_le (by simp) hb.size
  clear hb a1 a2 a3
  go_wp2_with fail
  refine (put_bytes i (by omega) i2 _).mono ?_
  rintro e w2 ⟨v2, rfl, own2, hb2⟩
  clear a0 HC
  have a1 := (hb2.cell hz1).trans A1.out
  obtain ⟨P2, c2, rfl, _⟩ := own_slice own2
  have own2' : OwnB (w2.alloc (.cells #[.int .u8 1] 5)) w1.heap.size (.slice P2 2 c2) [lo i, hi i] := World.ownsRow.alloc own2 _
  have src2 := Src.new w2 [.int .u8 1] 5
  have hz2 := hb2.size
  go_wp2_with (first
    | (at_builtin; refine wpList_app rfl rfl Try.underlying24 info_u8 rfl (by omega) rfl own2' rfl rfl src2 (by simp [Value.oneCell']) (by simp) (by simp) (by simp; omega) ?_; intro v3 w3 happ; have hb3 := happ.below own2' (hb2.alloc hb2.size _) (by simp; omega); have own3 : OwnB w3 w1.heap.size v3 [lo i, hi i, 1] := happ.own; clear happ src2 own2' a1; have a1 := (hb3.cell hz1).trans A1.out; have a2 := (hb3.cell hz1).trans A2.out; have a3 := (hb3.cell hz1).trans A3.out; have hz3 := hb3.size; obtain ⟨P3, c3, rfl, _⟩ := own_slice own3))
  go_ret2
  exact ⟨_, rfl, own_mono own3 hb1.size, hb1.trans (hb3.mono hb1.size)⟩

set_option maxRecDepth 100000 in
set_option maxHeartbeats 1000000 in
theorem putKey_entry (i : Int) (s : ByteArray) (c : Int) (hs : s.size ≤ maxLen) (h : mayKey i 2 s c = true) (w : World) :
    Calls Try.prog 8 #[.agg #[.int .i64 i, .int .u8 2, .string s, .int .i64 c]] w (BytesEnd (keyBytes i 2 s c) w) := by
  have HC := Lib.hid (fun w => h ▸ mayKey_any i 2 s c hs w)
  obtain ⟨⟨i1, i2⟩, hw⟩ := mayKey_what h
  have hn : nameB s = true := by rcases hw with h | ⟨_, h⟩ | ⟨h, _⟩ <;> first | exact h | omega
  have hs12 := nameB_size hn
  have wi : IntKind.u64.wrap i = i := IntWalk.u64_in _ (by omega)
  clear h hw
  go_enter Try.func8, Try.ntmps8
  go_wp2_with fail
  refine (HC.out _).mono ?_
  rintro e w1 ⟨rfl, hb⟩
  obtain ⟨a0, a1, a2, a3⟩ := keyBox_cells w i 2 s c
  have a0 := cell_below hb a0
  have A1 := Lib.hid (cell_below hb a1)
  have A2 := Lib.hid (cell_below hb a2)
  have A3 := Lib.hid (cell_below hb a3)
  have hb1 := below_of (below_alloc1 w (.cells #[.int .i64 i, .int .u8 2, .string s, .int .i64 c] 23)) hb
  have hz1 : w.heap.size < w1.heap.size := Nat.lt_of_lt_of_le (by simp) hb.size
  clear hb a1 a2 a3
  go_wp2_with fail
  refine (put_bytes i (by omega) i2 _).mono ?_
  rintro e w2 ⟨v2, rfl, own2, hb2⟩
  clear a0 HC
  have a1 := (hb2.cell hz1).trans A1.out
  obtain ⟨P2, c2, rfl, _⟩ := own_slice own2
  have own2' : OwnB (w2.alloc (.cells #[.int .u8 2] 5)) w1.heap.size (.slice P2 2 c2) [lo i, hi i] := World.ownsRow.alloc own2 _
  have src2 := Src.new w2 [.int .u8 2] 5
  have hz2 := hb2.size
  go_wp2_with (first
    | (at_builtin; refine wpList_app rfl rfl Try.underlying24 info_u8 rfl (by omega) rfl own2' rfl rfl src2 (by simp [Value.oneCell']) (by simp) (by simp) (by simp; omega) ?_; intro v3 w3 happ; have hb3 := happ.below own2' (hb2.alloc hb2.size _) (by simp; omega); have own3 : OwnB w3 w1.heap.size v3 [lo i, hi i, 2] := happ.own; clear happ src2 own2' a1; have a1 := (hb3.cell hz1).trans A1.out; have a2 := (hb3.cell hz1).trans A2.out; have a3 := (hb3.cell hz1).trans A3.out; have hz3 := hb3.size; obtain ⟨P3, c3, rfl, _⟩ := own_slice own3; have hcv := Lib.run_convert_string_bytes (P := Try.prog) w3 9 24 5 s Try.underlying9 Try.underlying24 Try.underlying5)
    | (go_at_call 31; refine (row_any s.data.toList s.size (by simp) (by omega) _ _ _ (bytesWorld_bs w3 s (by omega))).mono ?_; rintro e w4 ⟨v4, rfl, own4, hb4⟩; clear hcv a2; have hb34 : Below w3.heap.size w3 w4 := (bytesWorld_below (Below.refl _ w3) (Nat.le_refl _) s).trans (hb4.mono (by rw [Lib.bytesWorld_size]; omega)); have own3' : OwnB w4 w1.heap.size (.slice P3 3 c3) [lo i, hi i, 2] := World.ownsRow.kept own3 (grown_of_below hb34) (own_ne own3 (Nat.le_refl _) none (by intro k hk; cases hk)); have hb14 := hb3.trans (hb34.mono hz3); obtain ⟨P4, c4, rfl, src4⟩ := own_slice own4; clear a1 a3)
    | (at_builtin; refine wpList_app rfl rfl Try.underlying24 info_u8 rfl (by omega) rfl own3' rfl (by first | (simp [vals]; done) | (simp [vals]; omega)) src4 (vals_one _) (by simp; omega) (by simp; omega) hb14.size ?_; intro v5 w5 happ; have own5 := OwnB.app happ rfl (by simp); have hb5 := happ.below own3' hb14 hb14.size; clear happ own3' src4))
  go_ret2
  exact ⟨_, rfl, own_mono own5 hb1.size, hb1.trans (hb5.mono hb1.size)⟩

set_option maxRecDepth 100000 in
set_option maxHeartbeats 1000000 in
theorem putKey_piece (i : Int) (s : ByteArray) (c : Int) (hs : s.size ≤ maxLen) (h : mayKey i 3 s c = true) (w : World) :
    Calls Try.prog 8 #[.agg #[.int .i64 i, .int .u8 3, .string s, .int .i64 c]] w (BytesEnd (keyBytes i 3 s c) w) := by
  have HC := Lib.hid (fun w => h ▸ mayKey_any i 3 s c hs w)
  obtain ⟨⟨i1, i2⟩, hw⟩ := mayKey_what h
  have hc : 0 ≤ c ∧ c < 8 := by rcases hw with h | ⟨h, _⟩ | ⟨_, h⟩ <;> first | exact h | omega
  obtain ⟨c0, c8⟩ := hc
  have ho := Lib.hid (one_byte c0 (by omega))
  have wi : IntKind.u64.wrap i = i := IntWalk.u64_in _ (by omega)
  clear h hw
  go_enter Try.func8, Try.ntmps8
  go_wp2_with fail
  refine (HC.out _).mono ?_
  rintro e w1 ⟨rfl, hb⟩
  obtain ⟨a0, a1, a2, a3⟩ := keyBox_cells w i 3 s c
  have a0 := cell_below hb a0
  have A1 := Lib.hid (cell_below hb a1)
  have A2 := Lib.hid (cell_below hb a2)
  have A3 := Lib.hid (cell_below hb a3)
  have hb1 := below_of (below_alloc1 w (.cells #[.int .i64 i, .int .u8 3, .string s, .int .i64 c] 23)) hb
  have hz1 : w.heap.size < w1.heap.size := Nat.lt_of_lt_of_le (by simp) hb.size
  clear hb a1 a2 a3
  go_wp2_with fail
  refine (put_bytes i (by omega) i2 _).mono ?_
  rintro e w2 ⟨v2, rfl, own2, hb2⟩
  clear a0 HC
  have a1 := (hb2.cell hz1).trans A1.out
  obtain ⟨P2, c2, rfl, _⟩ := own_slice own2
  have own2' : OwnB (w2.alloc (.cells #[.int .u8 3] 5)) w1.heap.size (.slice P2 2 c2) [lo i, hi i] := World.ownsRow.alloc own2 _
  have src2 := Src.new w2 [.int .u8 3] 5
  have hz2 := hb2.size
  go_wp2_with (first
    | (at_builtin; refine wpList_app rfl rfl Try.underlying24 info_u8 rfl (by omega) rfl own2' rfl rfl src2 (by simp [Value.oneCell']) (by simp) (by simp) (by simp; omega) ?_; intro v3 w3 happ; have hb3 := happ.below own2' (hb2.alloc hb2.size _) (by simp; omega); have own3 : OwnB w3 w1.heap.size v3 [lo i, hi i, 3] := happ.own; clear happ src2 own2' a1; have a1 := (hb3.cell hz1).trans A1.out; have a2 := (hb3.cell hz1).trans A2.out; have a3 := (hb3.cell hz1).trans A3.out; have hz3 := hb3.size; obtain ⟨P3, c3, rfl, _⟩ := own_slice own3; have own3' : OwnB (w3.alloc (.cells #[.int .u8 c] 5)) w1.heap.size (.slice P3 3 c3) [lo i, hi i, 3] := World.ownsRow.alloc own3 _; have src3 := Src.new w3 [.int .u8 c] 5)
    | (at_builtin; refine wpList_app rfl rfl Try.underlying24 info_u8 rfl (by omega) rfl own3' rfl rfl src3 (by simp [Value.oneCell']) (by simp) (by simp) (by simp; omega) ?_; intro v5 w5 happ; have own5 : OwnB w5 w1.heap.size v5 ([lo i, hi i, 3] ++ [UInt8.ofNat c.toNat]) := OwnB.app (n := 3) (m := 1) (by rw [ho.out]; exact happ) rfl rfl; have hb5 := happ.below own3' (hb3.alloc hb3.size _) (by simp; omega); clear happ own3' src3))
  go_ret2
  exact ⟨_, rfl, own_mono own5 hb1.size, hb1.trans (hb5.mono hb1.size)⟩


theorem putKey_any (i u : Int) (s : ByteArray) (c : Int) (hs : s.size ≤ maxLen) (w : World) :
    Calls Try.prog 8 #[.agg #[.int .i64 i, .int .u8 u, .string s, .int .i64 c]] w (KeyEnd (mayKey i u s c) (keyBytes i u s c) w) := by
  cases h : mayKey i u s c
  · exact h ▸ putKey_no i u s c hs h w
  · rcases (mayKey_what h).2 with rfl | ⟨rfl, _⟩ | ⟨rfl, _⟩
    · exact (putKey_node i s c hs h w).mono fun e w' hh => .inr ⟨rfl, hh⟩
    · exact (putKey_entry i s c hs h w).mono fun e w' hh => .inr ⟨rfl, hh⟩
    · exact (putKey_piece i s c hs h w).mono fun e w' hh => .inr ⟨rfl, hh⟩
end Go.Proofs.Ytkianpkkligljaa
