/- The program's reader of bytes. -/
import Derived.Test.YtkianpkkligljaaNode
import Derived.Deep.AppendLies
import Derived.Maps.AppendAt
namespace Go.Proofs.Ytkianpkkligljaa
open Go.RowKit

/-- A reader stands in the block b. -/
def RdIn (w : World) (b : Nat) (A : Option Addr) (n c : Nat) (no : Bool) : Prop := w.heap[b]? = some (.cells #[.bool true, .slice A n c, .bool no] 64)
theorem RdIn.cells {w : World} {b : Nat} {A : Option Addr} {n c : Nat} {no : Bool} (h : RdIn w b A n c no) : w.cell? ⟨b, 0, none⟩ = some (.bool true) ∧ w.cell? ⟨b, 1, none⟩ = some (.slice A n c) ∧ w.cell? ⟨b, 2, none⟩ = some (.bool no) := by
  unfold RdIn at h
  refine ⟨?_, ?_, ?_⟩ <;> simp [World.cell?, h]
theorem RdIn.thaw {w : World} {b : Nat} {A : Option Addr} {n c : Nat} {no : Bool} (h : RdIn w b A n c no) (k : Nat) : w.frozen? ⟨b, k, none⟩ = false := by
  unfold RdIn at h
  simp [World.frozen?, h]
theorem RdIn.shut {w : World} {b : Nat} {A : Option Addr} {n c : Nat} {no : Bool} (h : RdIn w b A n c no) (x : Bool) : RdIn (w.setCell ⟨b, 2, none⟩ (.bool x)) b A n c x := by
  unfold RdIn at *
  simp [World.setCell, Array.getElem?_modify, h]
theorem RdIn.on {w : World} {b : Nat} {A : Option Addr} {n c : Nat} {no : Bool} (h : RdIn w b A n c no) (A' : Option Addr) (n' c' : Nat) : RdIn (w.setCell ⟨b, 1, none⟩ (.slice A' n' c')) b A' n' c' no := by
  unfold RdIn at *
  simp [World.setCell, Array.getElem?_modify, h]
theorem grown_setCell (w : World) (a : Addr) (u : Value) : w.grownBy (w.setCell a u) (some a.block) :=
  ⟨rfl, rfl, rfl, by simp, fun k _ hk => heap_setCell_other w a k u (fun e => hk (by rw [e]))⟩
theorem add_block (ad : Addr) (j : Nat) : (ad.add j).block = ad.block := by unfold Addr.add; split <;> rfl
theorem add_add (ad : Addr) (k j : Nat) : (ad.add k).add j = ad.add (k + j) := by
  unfold Addr.add
  by_cases hk : k = 0
  · subst hk; simp
  · by_cases hj : j = 0
    · subst hj; simp
    · rw [if_neg hj, if_neg hk, if_neg (by omega)]; simp; omega
theorem Bs.grown {w w' : World} {A : Option Addr} {l : List UInt8} {b : Nat} (h : Bs w A l) (hg : w.grownBy w' (some b)) (hn : ∀ ad, A = some ad → ad.block ≠ b) : Bs w' A l :=
  ⟨h.small, fun j hj => by
    obtain ⟨ad, e, hc⟩ := h.cell j hj
    refine ⟨ad, e, (hg.cell_far _ (World.block_lt_of_cell? w _ hc) ?_).trans hc⟩
    rw [add_block]
    exact fun he => hn ad e (by simpa using he)⟩
theorem Bs.take {w : World} {A : Option Addr} {l : List UInt8} (h : Bs w A l) (k : Nat) : Bs w A (l.take k) :=
  ⟨by have := h.small; simp; omega, fun j hj => by
    obtain ⟨ad, e, hc⟩ := h.cell j (by simp at hj; omega)
    exact ⟨ad, e, by rw [hc, List.getElem_take]⟩⟩
theorem Bs.drop {w : World} {A : Option Addr} {l : List UInt8} (h : Bs w A l) (k : Nat) : Bs w (A.map (·.add k)) (l.drop k) :=
  ⟨by have := h.small; simp; omega, fun j hj => by
    obtain ⟨ad, rfl, hc⟩ := h.cell (k + j) (by simp at hj; omega)
    exact ⟨ad.add k, rfl, by rw [add_add, hc, List.getElem_drop]⟩⟩
/-- The bytes that it has left. -/
structure Rd (w : World) (b : Nat) (l : List UInt8) (no : Bool) : Prop where
  at' : ∃ A c, RdIn w b A l.length c no ∧ l.length ≤ c ∧ c ≤ 9223372036854775807 ∧ Bs w A l ∧ ∀ ad, A = some ad → ad.block < b

set_option maxHeartbeats 1000000 in
theorem cut_no (b : Nat) (l : List UInt8) (k : Nat) (w : World) (h : Rd w b l true) : Calls Try.prog 47 #[.pointer (some ⟨b, 0, none⟩), .int .i64 k] w fun e w' => e = .returned (.tuple #[.slice none 0 0, .int .i64 4]) ∧ w' = w.setCell ⟨b, 2, none⟩ (.bool true) := by
  obtain ⟨A, c, hr, hc, hm, hB, hn⟩ := h.at'
  obtain ⟨c0, c1, c2⟩ := hr.cells
  have f2 := hr.thaw 2
  clear hr hB hn
  go_enter Try.func47, Try.ntmps47
  go_wp2
  go_ret2
  exact ⟨rfl, rfl⟩
set_option maxHeartbeats 1000000 in
theorem cut_short (b : Nat) (l : List UInt8) (k : Nat) (w : World) (h : Rd w b l false) (hk : l.length < k) : Calls Try.prog 47 #[.pointer (some ⟨b, 0, none⟩), .int .i64 k] w fun e w' => e = .returned (.tuple #[.slice none 0 0, .int .i64 4]) ∧ w' = w.setCell ⟨b, 2, none⟩ (.bool true) := by
  obtain ⟨A, c, hr, hc, hm, hB, hn⟩ := h.at'
  obtain ⟨c0, c1, c2⟩ := hr.cells
  have f2 := hr.thaw 2
  clear hr hB hn
  have d : decide ((l.length : Int) < (k : Int)) = true := by simp; omega
  go_enter Try.func47, Try.ntmps47
  go_wp2
  go_ret2
  exact ⟨rfl, rfl⟩
set_option maxHeartbeats 1000000 in
theorem cut_some (b : Nat) (l : List UInt8) (k : Nat) (w : World) (h : Rd w b l false) (hk : k ≤ l.length) : Calls Try.prog 47 #[.pointer (some ⟨b, 0, none⟩), .int .i64 k] w fun e w' => ∃ A, e = .returned (.tuple #[.slice A k k, .int .i64 0]) ∧ w.grownBy w' (some b) ∧ Bs w' A (l.take k) ∧ Rd w' b (l.drop k) false := by
  obtain ⟨A, c, hr, hc, hm, hB, hn⟩ := h.at'
  obtain ⟨c0, c1, c2⟩ := hr.cells
  have f1 := hr.thaw 1
  have HR := Lib.hid hr
  have HB := Lib.hid (And.intro hB hn)
  clear hr hB hn h
  have d : decide ((l.length : Int) < (k : Int)) = false := by simp; omega
  go_enter Try.func47, Try.ntmps47
  go_wp2
  all_goals go_ret2
  · have hg := grown_setCell w ⟨b, 1, none⟩ (.slice A (l.length - k) 0)
    have hb := (HB.out.1.grown hg fun ad h => Nat.ne_of_lt (HB.out.2 ad h))
    refine ⟨A, rfl, hg, hb.take k, ⟨A, 0, ?_, by simp; omega, by omega, ?_, HB.out.2⟩⟩
    · have := HR.out.on A (l.length - k) 0
      simpa using this
    · have e : l.drop k = [] := List.drop_eq_nil_of_le (by omega)
      rw [e]; exact Bs.nil _ _
  · have hg := grown_setCell w ⟨b, 1, none⟩ (.slice (A.map fun x => x.add k) (l.length - k) (c - k))
    have hb := (HB.out.1.grown hg fun ad h => Nat.ne_of_lt (HB.out.2 ad h))
    refine ⟨A, rfl, hg, hb.take k, ⟨A.map fun x => x.add k, c - k, ?_, by simp; omega, by omega, hb.drop k, ?_⟩⟩
    · have := HR.out.on (A.map fun x => x.add k) (l.length - k) (c - k)
      simpa using this
    · intro ad he
      simp only [Option.map_eq_some_iff] at he
      obtain ⟨a0, h0, rfl⟩ := he
      rw [add_block]; exact HB.out.2 a0 h0
end Go.Proofs.Ytkianpkkligljaa
