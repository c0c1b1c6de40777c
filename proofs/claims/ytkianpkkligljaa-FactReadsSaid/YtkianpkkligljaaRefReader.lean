/- The document's reader of bytes. -/
import Derived.Test.YtkianpkkligljaaRdRow
namespace Go.Proofs.Ytkianpkkligljaa
open Go.RowKit

/-- The document's reader stands in the block b. -/
def RfIn (w : World) (b : Nat) (A : Option Addr) (n c : Nat) (no : Bool) : Prop := w.heap[b]? = some (.cells #[.slice A n c, .bool no] 47)
theorem RfIn.cells {w : World} {b : Nat} {A : Option Addr} {n c : Nat} {no : Bool} (h : RfIn w b A n c no) : w.cell? ⟨b, 0, none⟩ = some (.slice A n c) ∧ w.cell? ⟨b, 1, none⟩ = some (.bool no) := by
  unfold RfIn at h
  refine ⟨?_, ?_⟩ <;> simp [World.cell?, h]
theorem RfIn.thaw {w : World} {b : Nat} {A : Option Addr} {n c : Nat} {no : Bool} (h : RfIn w b A n c no) (k : Nat) : w.frozen? ⟨b, k, none⟩ = false := by
  unfold RfIn at h
  simp [World.frozen?, h]
theorem RfIn.shut {w : World} {b : Nat} {A : Option Addr} {n c : Nat} {no : Bool} (h : RfIn w b A n c no) (x : Bool) : RfIn (w.setCell ⟨b, 1, none⟩ (.bool x)) b A n c x := by
  unfold RfIn at *
  simp [World.setCell, Array.getElem?_modify, h]
theorem RfIn.on {w : World} {b : Nat} {A : Option Addr} {n c : Nat} {no : Bool} (h : RfIn w b A n c no) (A' : Option Addr) (n' c' : Nat) : RfIn (w.setCell ⟨b, 0, none⟩ (.slice A' n' c')) b A' n' c' no := by
  unfold RfIn at *
  simp [World.setCell, Array.getElem?_modify, h]
structure Rf (w : World) (b : Nat) (l : List UInt8) (no : Bool) : Prop where
  at' : ∃ A c, RfIn w b A l.length c no ∧ l.length ≤ c ∧ c ≤ 9223372036854775807 ∧ Bs w A l ∧ ∀ ad, A = some ad → ad.block < b
theorem Rf.lt {w : World} {b : Nat} {l : List UInt8} {no : Bool} (h : Rf w b l no) : b < w.heap.size := by
  obtain ⟨A, c, hr, _⟩ := h.at'
  exact World.block_lt_of_cell? w _ hr.cells.1
theorem Rf.free {w w' : World} {b : Nat} {l : List UInt8} {no : Bool} (h : Rf w b l no) (hg : w.grownBy w' none) : Rf w' b l no := by
  have hlt := h.lt
  obtain ⟨A, c, hr, hc, hm, hB, hn⟩ := h.at'
  exact ⟨A, c, (hg.block b hlt (by simp)).trans hr, hc, hm, hB.free hg, hn⟩
theorem Rf.far {w w' : World} {b q : Nat} {l : List UInt8} {no : Bool} (h : Rf w b l no) (hg : w.grownBy w' (some q)) (hq : b < q) : Rf w' b l no := by
  have hlt := h.lt
  obtain ⟨A, c, hr, hc, hm, hB, hn⟩ := h.at'
  exact ⟨A, c, (hg.block b hlt (by simp; omega)).trans hr, hc, hm, hB.grown hg (fun ad e => by have := hn ad e; omega), hn⟩
theorem Rf.shut {w : World} {b : Nat} {l : List UInt8} {no : Bool} (h : Rf w b l no) : Rf (w.setCell ⟨b, 1, none⟩ (.bool true)) b l true := by
  obtain ⟨A, c, hr, hc, hm, hB, hn⟩ := h.at'
  exact ⟨A, c, hr.shut true, hc, hm, hB.grown (grown_setCell w ⟨b, 1, none⟩ _) (fun ad h => Nat.ne_of_lt (hn ad h)), hn⟩
theorem Rf.next {w : World} {b : Nat} {A : Option Addr} {l : List UInt8} {c k : Nat} (hr : RfIn w b A l.length c false) (hB : Bs w A l) (hn : ∀ ad, A = some ad → ad.block < b) (hk : k ≤ l.length) (hc : l.length ≤ c) (hm : c ≤ 9223372036854775807) :
    w.grownBy (w.setCell ⟨b, 0, none⟩ (.slice (A.map fun x => x.add k) (l.length - k) (c - k))) (some b) ∧ Rf (w.setCell ⟨b, 0, none⟩ (.slice (A.map fun x => x.add k) (l.length - k) (c - k))) b (l.drop k) false := by
  have hg := grown_setCell w ⟨b, 0, none⟩ (.slice (A.map fun x => x.add k) (l.length - k) (c - k))
  have hb := hB.grown hg fun ad h => Nat.ne_of_lt (hn ad h)
  refine ⟨hg, ⟨A.map fun x => x.add k, c - k, ?_, by simp; omega, by omega, hb.drop k, ?_⟩⟩
  · have := hr.on (A.map fun x => x.add k) (l.length - k) (c - k)
    simpa using this
  · intro ad he
    simp only [Option.map_eq_some_iff] at he
    obtain ⟨a0, h0, rfl⟩ := he
    rw [add_block]; exact hn a0 h0
theorem Rf.next0 {w : World} {b : Nat} {A : Option Addr} {l : List UInt8} {c k : Nat} (hr : RfIn w b A l.length c false) (_hB : Bs w A l) (hn : ∀ ad, A = some ad → ad.block < b) (hk : k ≤ l.length) (hc : l.length ≤ c) (hck : c = k) :
    w.grownBy (w.setCell ⟨b, 0, none⟩ (.slice A (l.length - k) 0)) (some b) ∧ Rf (w.setCell ⟨b, 0, none⟩ (.slice A (l.length - k) 0)) b (l.drop k) false := by
  have hg := grown_setCell w ⟨b, 0, none⟩ (.slice A (l.length - k) 0)
  refine ⟨hg, ⟨A, 0, ?_, by simp; omega, by omega, ?_, hn⟩⟩
  · have := hr.on A (l.length - k) 0
    simpa using this
  · have e : l.drop k = [] := List.drop_eq_nil_of_le (by omega)
    rw [e]; exact Bs.nil _ _
/-- What is taken, or nothing. -/
def RfTakeEnd (b : Nat) (l : List UInt8) (no : Bool) (k : Nat) (v : Int) (w : World) (e : Ending) (w' : World) : Prop :=
  w.grownBy w' (some b) ∧ ((no = false ∧ k ≤ l.length ∧ e = .returned (.tuple #[.int .u64 v, .int .i64 0]) ∧ Rf w' b (l.drop k) false) ∨
    ((no = true ∨ l.length < k) ∧ e = .returned (.tuple #[.int .u64 0, .int .i64 4]) ∧ Rf w' b l true))
theorem refSize_one (w : World) : Calls Try.prog 48 #[.int .i64 1] w fun e w' => e = .returned (.bool true) ∧ w = w' := by
  go_enter Try.func48, Try.ntmps48
  go_wp2
  go_ret
  exact ⟨rfl, rfl⟩
theorem refSize_two (w : World) : Calls Try.prog 48 #[.int .i64 2] w fun e w' => e = .returned (.bool true) ∧ w = w' := by
  go_enter Try.func48, Try.ntmps48
  go_wp2
  go_ret
  exact ⟨rfl, rfl⟩

set_option maxHeartbeats 1000000 in
theorem rfTake_one (b : Nat) (l : List UInt8) (no : Bool) (w : World) (h : Rf w b l no) : Calls Try.prog 38 #[.pointer (some ⟨b, 0, none⟩), .int .i64 1] w (RfTakeEnd b l no 1 (byteAt l 0) w) := by
  have HS := Lib.hid h.shut
  obtain ⟨A, c, hr, hc, hm, hB, hn⟩ := h.at'
  obtain ⟨c0, c1⟩ := hr.cells
  have f0 := hr.thaw 0
  have f1 := hr.thaw 1
  have hg1 := Lib.hid (grown_setCell w ⟨b, 1, none⟩ (.bool true))
  cases no
  · by_cases hk : l.length < 1
    · have d : decide ((l.length : Int) < 1) = true := by simp; omega
      have HK := Lib.hid hk
      clear hk hB hr h hn
      go_enter Try.func38, Try.ntmps38
      go_wp2_with fail
      refine (refSize_one w).mono ?_
      rintro e _ ⟨rfl, rfl⟩
      go_wp2
      go_ret2
      exact ⟨hg1.out, .inr ⟨.inr HK.out, rfl, HS.out⟩⟩
    · have d : decide ((l.length : Int) < 1) = false := by simp; omega
      have HK := Lib.hid hk
      obtain ⟨ad, rfl, hd⟩ := hB.cell 0 (by omega)
      simp only [add_zero] at hd
      have hv : byteAt l 0 = ((l[0]'(by omega)).toNat : Int) := by unfold byteAt; simp [List.getElem?_eq_getElem (show 0 < l.length by omega)]
      rw [← hv] at hd
      have hy := byte_lt l 0
      clear hv
      generalize byteAt l 0 = y at *
      have HB := Lib.hid (And.intro hB (And.intro hn hr))
      have i0 : (0 : Int) < (l.length : Int) := by omega
      clear hk hB hr h hn
      go_enter Try.func38, Try.ntmps38
      go_wp2_with fail
      refine (refSize_one w).mono ?_
      rintro e _ ⟨rfl, rfl⟩
      go_wp2
      go_loopg [6, 7] 1 (fun n v6 v7 wr => wr = w ∧ ((n = 1 ∧ v6 = .int .u64 0 ∧ v7 = .int .i64 0) ∨ (n = 0 ∧ v6 = .int .u64 y ∧ v7 = .int .i64 (-1))))
      case atStart => exact ⟨rfl, .inl ⟨rfl, rfl, rfl⟩⟩
      case round =>
        obtain ⟨rfl, ⟨rfl, rfl, rfl⟩ | ⟨rfl, rfl, rfl⟩⟩ := hrel
        · go_wp2
          go_roundg 0
          case measure => omega
          case rel => exact ⟨rfl, .inr ⟨rfl, by first | rfl | trace_state, by first | rfl | trace_state⟩⟩
        · go_wp2
          all_goals go_ret2
          · obtain ⟨hg, hf⟩ := Rf.next0 (k := 1) HB.out.2.2 HB.out.1 HB.out.2.1 (by have := HK.out; omega) hc (by assumption)
            exact ⟨hg, .inl ⟨rfl, by have := HK.out; omega, rfl, hf⟩⟩
          · obtain ⟨hg, hf⟩ := Rf.next (k := 1) HB.out.2.2 HB.out.1 HB.out.2.1 (by have := HK.out; omega) hc hm
            exact ⟨hg, .inl ⟨rfl, by have := HK.out; omega, rfl, hf⟩⟩
  · clear hB hr h hn
    go_enter Try.func38, Try.ntmps38
    go_wp2_with fail
    refine (refSize_one w).mono ?_
    rintro e _ ⟨rfl, rfl⟩
    go_wp2
    go_ret2
    exact ⟨hg1.out, .inr ⟨.inl rfl, rfl, HS.out⟩⟩
set_option maxHeartbeats 1000000 in
theorem rfTake_two (b : Nat) (l : List UInt8) (no : Bool) (w : World) (h : Rf w b l no) : Calls Try.prog 38 #[.pointer (some ⟨b, 0, none⟩), .int .i64 2] w (RfTakeEnd b l no 2 (byteAt l 0 + byteAt l 1 * 256) w) := by
  have HS := Lib.hid h.shut
  obtain ⟨A, c, hr, hc, hm, hB, hn⟩ := h.at'
  obtain ⟨c0, c1⟩ := hr.cells
  have f0 := hr.thaw 0
  have f1 := hr.thaw 1
  have hg1 := Lib.hid (grown_setCell w ⟨b, 1, none⟩ (.bool true))
  cases no
  · by_cases hk : l.length < 2
    · have d : decide ((l.length : Int) < 2) = true := by simp; omega
      have HK := Lib.hid hk
      clear hk hB hr h hn
      go_enter Try.func38, Try.ntmps38
      go_wp2_with fail
      refine (refSize_two w).mono ?_
      rintro e _ ⟨rfl, rfl⟩
      go_wp2
      go_ret2
      exact ⟨hg1.out, .inr ⟨.inr HK.out, rfl, HS.out⟩⟩
    · have d : decide ((l.length : Int) < 2) = false := by simp; omega
      have HK := Lib.hid hk
      obtain ⟨ad, rfl, hd⟩ := hB.cell 0 (by omega)
      simp only [add_zero] at hd
      have hv : byteAt l 0 = ((l[0]'(by omega)).toNat : Int) := by unfold byteAt; simp [List.getElem?_eq_getElem (show 0 < l.length by omega)]
      rw [← hv] at hd
      have hy := byte_lt l 0
      clear hv
      generalize byteAt l 0 = y at *
      obtain ⟨_, e1, hd1⟩ := hB.cell 1 (by omega)
      cases e1
      rw [add_succ] at hd1
      simp only [Nat.zero_add] at hd1
      have hv : byteAt l 1 = ((l[1]'(by omega)).toNat : Int) := by unfold byteAt; simp [List.getElem?_eq_getElem (show 1 < l.length by omega)]
      rw [← hv] at hd1
      have hz := byte_lt l 1
      clear hv
      generalize byteAt l 1 = z at *
      have i1 : (1 : Int) < (l.length : Int) := by omega
      have HB := Lib.hid (And.intro hB (And.intro hn hr))
      have i0 : (0 : Int) < (l.length : Int) := by omega
      clear hk hB hr h hn
      go_enter Try.func38, Try.ntmps38
      go_wp2_with fail
      refine (refSize_two w).mono ?_
      rintro e _ ⟨rfl, rfl⟩
      go_wp2
      go_loopg [6, 7] 2 (fun n v6 v7 wr => wr = w ∧ ((n = 2 ∧ v6 = .int .u64 0 ∧ v7 = .int .i64 1) ∨ (n = 1 ∧ v6 = .int .u64 z ∧ v7 = .int .i64 0) ∨ (n = 0 ∧ v6 = .int .u64 (y + z * 256) ∧ v7 = .int .i64 (-1))))
      case atStart => exact ⟨rfl, .inl ⟨rfl, rfl, rfl⟩⟩
      case round =>
        obtain ⟨rfl, ⟨rfl, rfl, rfl⟩ | ⟨rfl, rfl, rfl⟩ | ⟨rfl, rfl, rfl⟩⟩ := hrel
        · go_wp2
          go_roundg 1
          case measure => omega
          case rel => exact ⟨rfl, .inr (.inl ⟨rfl, by first | rfl | trace_state, by first | rfl | trace_state⟩)⟩
        · go_wp2
          go_roundg 0
          case measure => omega
          case rel => exact ⟨rfl, .inr (.inr ⟨rfl, by first | rfl | (congr 1; omega) | trace_state, by first | rfl | trace_state⟩)⟩
        · go_wp2
          all_goals go_ret2
          · obtain ⟨hg, hf⟩ := Rf.next0 (k := 2) HB.out.2.2 HB.out.1 HB.out.2.1 (by have := HK.out; omega) hc (by assumption)
            exact ⟨hg, .inl ⟨rfl, by have := HK.out; omega, rfl, hf⟩⟩
          · obtain ⟨hg, hf⟩ := Rf.next (k := 2) HB.out.2.2 HB.out.1 HB.out.2.1 (by have := HK.out; omega) hc hm
            exact ⟨hg, .inl ⟨rfl, by have := HK.out; omega, rfl, hf⟩⟩
  · clear hB hr h hn
    go_enter Try.func38, Try.ntmps38
    go_wp2_with fail
    refine (refSize_two w).mono ?_
    rintro e _ ⟨rfl, rfl⟩
    go_wp2
    go_ret2
    exact ⟨hg1.out, .inr ⟨.inl rfl, rfl, HS.out⟩⟩

theorem rfLeft_any (b : Nat) (l : List UInt8) (no : Bool) (w : World) (h : Rf w b l no) : Calls Try.prog 29 #[.pointer (some ⟨b, 0, none⟩)] w fun e w' => e = .returned (.int .i64 (leftOf l no)) ∧ w = w' := by
  obtain ⟨A, c, hr, hc, hm, hB, hn⟩ := h.at'
  obtain ⟨c0, c1⟩ := hr.cells
  clear hr hB hn h
  cases no
  · go_enter Try.func29, Try.ntmps29
    go_wp2
    go_ret
    exact ⟨rfl, rfl⟩
  · go_enter Try.func29, Try.ntmps29
    go_wp2
    go_ret
    exact ⟨rfl, rfl⟩
end Go.Proofs.Ytkianpkkligljaa
