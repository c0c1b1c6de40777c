/- A key's bytes: the document's. -/
import Derived.Test.YtkianpkkligljaaPut
namespace Go.Proofs.Ytkianpkkligljaa
open Go.RowKit

set_option maxHeartbeats 400000 in
theorem refPutKey_no (i u : Int) (s : ByteArray) (c : Int) (hs : s.size ≤ maxLen) (h : mayKey i u s c = false) (w : World) :
    Calls Try.prog 9 #[.agg #[.int .i64 i, .int .u8 u, .string s, .int .i64 c]] w (KeyEnd (mayKey i u s c) (keyBytes i u s c) w) := by
  rw [h]
  have HC := Lib.hid (fun w => h ▸ refMayKey_any i u s c hs w)
  clear h
  go_enter Try.func9, Try.ntmps9
  go_wp2_with fail
  refine (HC.out _).mono ?_
  rintro e w1 ⟨rfl, hb⟩
  have hb1 := below_of (below_alloc1 w (.cells #[.int .i64 i, .int .u8 u, .string s, .int .i64 c] 23)) hb
  clear hb
  go_wp2
  go_ret2
  exact .inl ⟨rfl, rfl, hb1⟩

theorem head_vals {i u : Int} (i1 : 1 ≤ i) (i2 : i ≤ 65535) (u0 : 0 ≤ u) (u1 : u ≤ 255) : vals [lo i, hi i, UInt8.ofNat u.toNat] = [.int .u8 (i % 256), .int .u8 (i / 256), .int .u8 u] := by
  simp [vals, lo_int (show 0 ≤ i by omega), hi_int (show 0 ≤ i by omega) i2]; omega

set_option maxRecDepth 100000 in
set_option maxHeartbeats 1000000 in
theorem refPutKey_node (i : Int) (s : ByteArray) (c : Int) (hs : s.size ≤ maxLen) (h : mayKey i 1 s c = true) (w : World) :
    Calls Try.prog 9 #[.agg #[.int .i64 i, .int .u8 1, .string s, .int .i64 c]] w (BytesEnd (keyBytes i 1 s c) w) := by
  have HC := Lib.hid (fun w => h ▸ refMayKey_any i 1 s c hs w)
  obtain ⟨⟨i1, i2⟩, hw⟩ := mayKey_what h
  have HV := Lib.hid (head_vals (u := 1) i1 i2 (by omega) (by omega))
  clear h hw
  go_enter Try.func9, Try.ntmps9
  go_wp2_with fail
  refine (HC.out _).mono ?_
  rintro e w1 ⟨rfl, hb⟩
  obtain ⟨a0, a1, a2, a3⟩ := keyBox_cells w i 1 s c
  have a0 := cell_below hb a0
  have a1 := cell_below hb a1
  have hb1 := below_of (below_alloc1 w (.cells #[.int .i64 i, .int .u8 1, .string s, .int .i64 c] 23)) hb
  have hz1 : w.heap.size < w1.heap.size := Nat.lt_of_lt_of_le (by simp) hb.size
  clear hb a2 a3
  go_wp2
  go_ret2
  refine ⟨_, rfl, ?_, hb1.alloc hb1.size _⟩
  have := OwnB.lit w1 w.heap.size [lo i, hi i, 1] hb1.size (by simp)
  rw [show vals [lo i, hi i, 1] = _ from HV.out] at this
  exact this

set_option maxRecDepth 100000 in
set_option maxHeartbeats 1000000 in
theorem refPutKey_piece (i : Int) (s : ByteArray) (c : Int) (hs : s.size ≤ maxLen) (h : mayKey i 3 s c = true) (w : World) :
    Calls Try.prog 9 #[.agg #[.int .i64 i, .int .u8 3, .string s, .int .i64 c]] w (BytesEnd (keyBytes i 3 s c) w) := by
  have HC := Lib.hid (fun w => h ▸ refMayKey_any i 3 s c hs w)
  obtain ⟨⟨i1, i2⟩, hw⟩ := mayKey_what h
  have hc : 0 ≤ c ∧ c < 8 := by rcases hw with h | ⟨h, _⟩ | ⟨_, h⟩ <;> first | exact h | omega
  obtain ⟨c0, c8⟩ := hc
  have ho := Lib.hid (one_byte c0 (by omega))
  have HV := Lib.hid (head_vals (u := 3) i1 i2 (by omega) (by omega))
  clear h hw
  go_enter Try.func9, Try.ntmps9
  go_wp2_with fail
  refine (HC.out _).mono ?_
  rintro e w1 ⟨rfl, hb⟩
  obtain ⟨a0, a1, a2, a3⟩ := keyBox_cells w i 3 s c
  have a0 := cell_below hb a0
  have a1 := cell_below hb a1
  have a3 := cell_below hb a3
  have hb1 := below_of (below_alloc1 w (.cells #[.int .i64 i, .int .u8 3, .string s, .int .i64 c] 23)) hb
  have hz1 : w.heap.size < w1.heap.size := Nat.lt_of_lt_of_le (by simp) hb.size
  clear hb a2
  have own2 : OwnB (w1.alloc (.cells #[.int .u8 (i % 256), .int .u8 (i / 256), .int .u8 3] 5)) w.heap.size (.slice (some ⟨w1.heap.size, 0, none⟩) 3 3) [lo i, hi i, 3] := by
    have := OwnB.lit w1 w.heap.size [lo i, hi i, 3] hb1.size (by simp)
    rw [show vals [lo i, hi i, 3] = _ from HV.out] at this
    exact this
  have own2' : OwnB ((w1.alloc (.cells #[.int .u8 (i % 256), .int .u8 (i / 256), .int .u8 3] 5)).alloc (.cells #[.int .u8 c] 5)) w.heap.size (.slice (some ⟨w1.heap.size, 0, none⟩) 3 3) [lo i, hi i, 3] := World.ownsRow.alloc own2 _
  have src2 := Src.new (w1.alloc (.cells #[.int .u8 (i % 256), .int .u8 (i / 256), .int .u8 3] 5)) [.int .u8 c] 5
  have hsz : (w1.alloc (.cells #[.int .u8 (i % 256), .int .u8 (i / 256), .int .u8 3] 5)).heap.size = w1.heap.size + 1 := by simp
  rw [hsz] at src2
  clear hsz
  have hb2 := (hb1.alloc hb1.size (.cells #[.int .u8 (i % 256), .int .u8 (i / 256), .int .u8 3] 5)).alloc (by simp; omega) (.cells #[.int .u8 c] 5)
  go_wp2_with (at_builtin; refine wpList_app rfl rfl Try.underlying24 info_u8 rfl (by omega) rfl own2' rfl rfl src2 (by simp [Value.oneCell']) (by simp) (by simp) (by simp; omega) ?_; intro v5 w5 happ; have own5 : OwnB w5 w.heap.size v5 ([lo i, hi i, 3] ++ [UInt8.ofNat c.toNat]) := OwnB.app (n := 3) (m := 1) (by rw [ho.out]; exact happ) rfl rfl; have hb5 := happ.below own2' hb2 hb2.size; clear happ own2' src2)
  go_ret2
  exact ⟨_, rfl, own5, hb5⟩

theorem take_snoc_bytes (s : ByteArray) (k : Nat) (h : k < s.size) : s.data.toList.take (k + 1) = s.data.toList.take k ++ [s[k]] := by
  rw [List.take_succ_eq_append_getElem (by simpa using h)]; rfl

set_option maxRecDepth 100000 in
set_option maxHeartbeats 1000000 in
theorem refPutKey_entry (i : Int) (s : ByteArray) (c : Int) (hs : s.size ≤ maxLen) (h : mayKey i 2 s c = true) (w : World) :
    Calls Try.prog 9 #[.agg #[.int .i64 i, .int .u8 2, .string s, .int .i64 c]] w (BytesEnd (keyBytes i 2 s c) w) := by
  have HC := Lib.hid (fun w => h ▸ refMayKey_any i 2 s c hs w)
  obtain ⟨⟨i1, i2⟩, hw⟩ := mayKey_what h
  have hn : nameB s = true := by rcases hw with h | ⟨_, h⟩ | ⟨h, _⟩ <;> first | exact h | omega
  have hs12 := nameB_size hn
  have HV := Lib.hid (head_vals (u := 2) i1 i2 (by omega) (by omega))
  have ho := Lib.hid (one_byte (u := (s.size : Int)) (by omega) (by omega))
  have wl : IntKind.u8.wrap (s.size : Int) = (s.size : Int) := IntWalk.u8_in _ (by omega)
  clear h hw hn
  go_enter Try.func9, Try.ntmps9
  go_wp2_with fail
  refine (HC.out _).mono ?_
  rintro e w1 ⟨rfl, hb⟩
  obtain ⟨a0, a1, a2, a3⟩ := keyBox_cells w i 2 s c
  have a0 := cell_below hb a0
  have a1 := cell_below hb a1
  have a2 := cell_below hb a2
  have A2 := Lib.hid a2
  have hb1 := below_of (below_alloc1 w (.cells #[.int .i64 i, .int .u8 2, .string s, .int .i64 c] 23)) hb
  have hz1 : w.heap.size < w1.heap.size := Nat.lt_of_lt_of_le (by simp) hb.size
  clear hb a3
  have own2 : OwnB (w1.alloc (.cells #[.int .u8 (i % 256), .int .u8 (i / 256), .int .u8 2] 5)) w1.heap.size (.slice (some ⟨w1.heap.size, 0, none⟩) 3 3) [lo i, hi i, 2] := by
    have := OwnB.lit w1 w1.heap.size [lo i, hi i, 2] (Nat.le_refl _) (by simp)
    rw [show vals [lo i, hi i, 2] = _ from HV.out] at this
    exact this
  have own2' : OwnB ((w1.alloc (.cells #[.int .u8 (i % 256), .int .u8 (i / 256), .int .u8 2] 5)).alloc (.cells #[.int .u8 (s.size : Int)] 5)) w1.heap.size (.slice (some ⟨w1.heap.size, 0, none⟩) 3 3) [lo i, hi i, 2] := World.ownsRow.alloc own2 _
  have src2 := Src.new (w1.alloc (.cells #[.int .u8 (i % 256), .int .u8 (i / 256), .int .u8 2] 5)) [.int .u8 (s.size : Int)] 5
  have hsz : (w1.alloc (.cells #[.int .u8 (i % 256), .int .u8 (i / 256), .int .u8 2] 5)).heap.size = w1.heap.size + 1 := by simp
  rw [hsz] at src2
  clear hsz own2
  have hb2 := ((Below.refl w1.heap.size w1).alloc (Nat.le_refl _) (.cells #[.int .u8 (i % 256), .int .u8 (i / 256), .int .u8 2] 5)).alloc (by simp) (.cells #[.int .u8 (s.size : Int)] 5)
  go_wp2_with (at_builtin; refine wpList_app rfl rfl Try.underlying24 info_u8 rfl (by omega) rfl own2' rfl rfl src2 (by simp [Value.oneCell']) (by simp) (by simp) hb2.size ?_; intro v5 w5 happ; have own5 : OwnB w5 w1.heap.size v5 ([lo i, hi i, 2] ++ [UInt8.ofNat s.size]) := OwnB.app (n := 3) (m := 1) (by rw [show vals [UInt8.ofNat s.size] = _ from ho.out]; exact happ) rfl rfl; have hb5 := happ.below own2' hb2 hb2.size; clear happ own2' src2 a2; obtain ⟨P5, c5, rfl, _⟩ := own_slice own5)
  go_loopg [4, 5] s.size (fun n v i' wr => ∃ (k : Nat) (A : Option Addr) (c' : Nat), k ≤ s.size ∧ n = s.size - k ∧ i' = .int .i64 k ∧ v = .slice A (4 + k) c' ∧ Hid (OwnB wr w1.heap.size (.slice A (4 + k) c') ([lo i, hi i, 2, UInt8.ofNat s.size] ++ s.data.toList.take k)) ∧ Below w1.heap.size w1 wr)
  case atStart => exact ⟨0, P5, c5, Nat.zero_le _, by omega, rfl, rfl, own5, hb5⟩
  case round =>
    obtain ⟨k, A, c', hk, rfl, rfl, rfl, ownk, hbk⟩ := hrel
    have a2 := (hbk.cell hz1).trans A2.out
    by_cases hlt : k < s.size
    · have src := Src.new wr [.int .u8 (s[k].toNat : Int)] 5
      have hzk := hbk.size
      have own' : OwnB (wr.alloc (.cells #[.int .u8 (s[k].toNat : Int)] 5)) w1.heap.size (.slice A (4 + k) c') ([lo i, hi i, 2, UInt8.ofNat s.size] ++ s.data.toList.take k) := World.ownsRow.alloc ownk.out _
      have hl : ([lo i, hi i, 2, UInt8.ofNat s.size] ++ s.data.toList.take k).length = 4 + k := by simp; omega
      have ownp : (wr.alloc (.cells #[.int .u8 (s[k].toNat : Int)] 5)).ownsRow w1.heap.size 5 1 (.slice A (4 + k) c') (4 + k) (vals ([lo i, hi i, 2, UInt8.ofNat s.size] ++ s.data.toList.take k)) := by
        unfold OwnB at own'; rw [hl] at own'; exact own'
      have HL := Lib.hid hl
      clear own' hl
      go_wp2_with (at_builtin; refine wpList_app rfl rfl Try.underlying24 info_u8 rfl (by omega) rfl ownp rfl rfl src (by simp [Value.oneCell']) (by omega) (by omega) (by simp; omega) ?_; intro v6 w6 happ; have own6 : OwnB w6 w1.heap.size v6 (([lo i, hi i, 2, UInt8.ofNat s.size] ++ s.data.toList.take k) ++ [s[k]]) := OwnB.app (n := 4 + k) (m := 1) happ HL.out.symm rfl; have hb6 := happ.below ownp (hbk.alloc hbk.size _) (by simp; omega); have ownq := happ.own; clear happ src a2 ownp; obtain ⟨P6, c6, rfl, _⟩ := own_slice ownq; clear ownq)
      go_roundg (s.size - (k + 1))
      case measure => omega
      case rel => exact ⟨k + 1, P6, c6, by omega, rfl, by go_num, rfl, by
        have h6 := own6
        rw [List.append_assoc, ← take_snoc_bytes s k hlt] at h6
        exact h6, hb6⟩
    · obtain rfl : k = s.size := by omega
      have own9 := ownk.out
      rw [List.take_of_length_le (by simp)] at own9
      have OWN := Lib.hid own9
      clear own9
      go_wp2
      go_ret2
      exact ⟨_, rfl, own_mono OWN.out hb1.size, hb1.trans (hbk.mono hb1.size)⟩

theorem refPutKey_any (i u : Int) (s : ByteArray) (c : Int) (hs : s.size ≤ maxLen) (w : World) :
    Calls Try.prog 9 #[.agg #[.int .i64 i, .int .u8 u, .string s, .int .i64 c]] w (KeyEnd (mayKey i u s c) (keyBytes i u s c) w) := by
  cases h : mayKey i u s c
  · exact h ▸ refPutKey_no i u s c hs h w
  · rcases (mayKey_what h).2 with rfl | ⟨rfl, _⟩ | ⟨rfl, _⟩
    · exact (refPutKey_node i s c hs h w).mono fun e w' hh => .inr ⟨rfl, hh⟩
    · exact (refPutKey_entry i s c hs h w).mono fun e w' hh => .inr ⟨rfl, hh⟩
    · exact (refPutKey_piece i s c hs h w).mono fun e w' hh => .inr ⟨rfl, hh⟩
end Go.Proofs.Ytkianpkkligljaa
