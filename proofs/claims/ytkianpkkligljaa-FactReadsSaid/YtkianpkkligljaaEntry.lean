/- What an entry's value says: the program's and the document's. -/
import Derived.Test.YtkianpkkligljaaTake
namespace Go.Proofs.Ytkianpkkligljaa
open Go.RowKit

def entryOf (l : List UInt8) : Int × Int := if l.length = 2 ∧ ¬ (byteAt l 0 = 0 ∧ byteAt l 1 = 0) then (byteAt l 0 + byteAt l 1 * 256, 0) else (0, 5)
def EntryEnd (l : List UInt8) (w : World) (x : Ending) (w' : World) : Prop := x = .returned (.tuple #[.int .i64 (entryOf l).1, .int .i64 (entryOf l).2]) ∧ Below w.heap.size w w'
theorem EntryEnd.of {l : List UInt8} {n e : Int} (h : entryOf l = (n, e)) {w w' : World} (hx : Below w.heap.size w w') : EntryEnd l w (.returned (.tuple #[.int .i64 n, .int .i64 e])) w' := by
  unfold EntryEnd; rw [h]; exact ⟨rfl, hx⟩
theorem byte_lt (l : List UInt8) (j : Nat) : 0 ≤ byteAt l j ∧ byteAt l j < 256 := by
  unfold byteAt; have := (l.getD j 0).toNat_lt; omega
theorem below_grown {w w1 w2 : World} {b : Nat} (h : Below w.heap.size w w1) (hb : w.heap.size ≤ b) (hg : w1.grownBy w2 (some b)) : Below w.heap.size w w2 :=
  h.grown hg h.size (fun k hk => by cases hk; exact hb)

set_option maxHeartbeats 1000000 in
theorem entry_any (l : List UInt8) (n : Nat) (hn : l.length = n) (A : Option Addr) (c : Nat) (w : World) (hA : Bs w A l) : Calls Try.prog 22 #[.slice A n c] w (EntryEnd l w) := by
  have hb0 := byte_lt l 0
  have hb1 := byte_lt l 1
  have hsm := hA.small
  have N := Lib.hid (new_any l n hn A c w hA)
  have HE := Lib.hid (show entryOf l = if n = 2 ∧ ¬ (byteAt l 0 = 0 ∧ byteAt l 1 = 0) then (byteAt l 0 + byteAt l 1 * 256, 0) else (0, 5) by unfold entryOf; rw [hn])
  clear hA
  go_enter Try.func22, Try.ntmps22
  go_wp2_with fail
  refine N.out.mono ?_
  rintro e w1 ⟨b, hb, rfl, hr, hw1⟩
  go_wp2_with fail
  refine (take_two b l false w1 hr).mono ?_
  rintro e w2 ⟨hg, ⟨_, hk, rfl, hr2⟩ | ⟨hs, rfl, hr2⟩⟩
  · have hw2 := below_grown hw1 hb hg
    generalize byteAt l 0 = y at *
    generalize byteAt l 1 = z at *
    clear hr hr2 hg hw1
    rw [hn] at hk
    by_cases h2 : n = 2
    · subst h2
      by_cases hz : y + z * 256 = 0
      · have HF : Hid (entryOf l = (0, 5)) := by show _ = _; rw [HE.out, if_neg (by omega)]
        rw [hz]
        clear hz
        go_wp2
        go_ret2
        exact .of HF.out hw2
      · have HF : Hid (entryOf l = (y + z * 256, 0)) := by show _ = _; rw [HE.out, if_pos (by omega)]
        have q : ((y + z * 256) == 0) = false := by simp; omega
        have q2 : IntKind.i64.wrap (y + z * 256) = y + z * 256 := IntWalk.i64_in _ (by omega)
        generalize y + z * 256 = v at *
        clear hz
        go_wp2
        go_ret2
        exact .of HF.out hw2
    · have HF : Hid (entryOf l = (0, 5)) := by show _ = _; rw [HE.out, if_neg (by omega)]
      have q : ((n : Int) != 2) = true := by simp; omega
      clear h2
      go_wp2
      go_ret2
      exact .of HF.out hw2
  · have hw2 := below_grown hw1 hb hg
    have HF : Hid (entryOf l = (0, 5)) := by
      show _ = _
      rw [HE.out, if_neg]
      rcases hs with h | h
      · cases h
      · omega
    clear hr hr2 hg hw1
    go_wp2
    go_ret2
    exact .of HF.out hw2

set_option maxRecDepth 20000 in
set_option maxHeartbeats 1000000 in
theorem refEntry_any (l : List UInt8) (n : Nat) (hn : l.length = n) (A : Option Addr) (c : Nat) (w : World) (hA : Bs w A l) : Calls Try.prog 23 #[.slice A n c] w (EntryEnd l w) := by
  have hb0 := byte_lt l 0
  have hb1 := byte_lt l 1
  have HE := Lib.hid (show entryOf l = if n = 2 ∧ ¬ (byteAt l 0 = 0 ∧ byteAt l 1 = 0) then (byteAt l 0 + byteAt l 1 * 256, 0) else (0, 5) by unfold entryOf; rw [hn])
  by_cases h2 : n = 2
  · subst h2
    obtain ⟨ad, rfl, hc⟩ := hA.cell 0 (by omega)
    obtain ⟨_, e1, hd⟩ := hA.cell 1 (by omega)
    cases e1
    rw [add_succ] at hd
    simp only [add_zero, Nat.zero_add] at hc hd
    have hv : byteAt l 0 = ((l[0]'(by omega)).toNat : Int) := by unfold byteAt; simp [List.getElem?_eq_getElem (show 0 < l.length by omega)]
    have hv1 : byteAt l 1 = ((l[1]'(by omega)).toNat : Int) := by unfold byteAt; simp [List.getElem?_eq_getElem (show 1 < l.length by omega)]
    rw [← hv] at hc
    rw [← hv1] at hd
    clear hv hv1 hA
    generalize byteAt l 0 = y at *
    generalize byteAt l 1 = z at *
    by_cases hy : y = 0
    · subst hy
      by_cases hz : z = 0
      · subst hz
        have HF : Hid (entryOf l = (0, 5)) := by show _ = _; rw [HE.out, if_neg (by omega)]
        go_enter Try.func23, Try.ntmps23
        go_wp2
        go_ret2
        exact .of HF.out (Below.refl _ _)
      · have HF : Hid (entryOf l = (256 * z, 0)) := by show _ = _; rw [HE.out, if_pos (by omega), show 0 + z * 256 = 256 * z by omega]
        have q : (z == 0) = false := by simp; omega
        clear hz
        go_enter Try.func23, Try.ntmps23
        go_wp2
        go_quiet (fail)
        go_wp2
        go_ret2
        exact .of HF.out (below_drewN (Below.refl _ _) _)
    · have HF : Hid (entryOf l = (y + 256 * z, 0)) := by show _ = _; rw [HE.out, if_pos (by omega), show y + z * 256 = y + 256 * z by omega]
      have q : (y == 0) = false := by simp; omega
      clear hy
      go_enter Try.func23, Try.ntmps23
      go_wp2
      go_quiet (fail)
      go_wp2
      go_ret2
      exact .of HF.out (below_drewN (Below.refl _ _) _)
  · have HF : Hid (entryOf l = (0, 5)) := by show _ = _; rw [HE.out, if_neg (by omega)]
    have q : ((n : Int) != 2) = true := by simp; omega
    clear h2 hA
    go_enter Try.func23, Try.ntmps23
    go_wp2
    go_ret2
    exact .of HF.out (Below.refl _ _)
end Go.Proofs.Ytkianpkkligljaa
