/- What a node's value says: the program's and the document's. -/
import Derived.Test.YtkianpkkligljaaValues
import Derived.BigRegion
namespace Go.Proofs.Ytkianpkkligljaa
open Go.RowKit

theorem or_bytes {k : IntKind} (hk : k.bits = 64) {a b : Int} (ha : 0 ≤ a ∧ a < 256) (hb : 0 ≤ b ∧ b < 256) (hw : k.wrap (a + b * 256) = a + b * 256) : bits .or k a (b * 256) = a + b * 256 := by
  unfold bits
  obtain ⟨x, rfl⟩ : ∃ x : Nat, a = x := ⟨a.toNat, by omega⟩
  obtain ⟨y, rfl⟩ : ∃ y : Nat, b = y := ⟨b.toNat, by omega⟩
  have hx : x < 2 ^ 8 := by omega
  have hy : y < 256 := by omega
  have e : ((y : Int) * 256) = ((y * 256 : Nat) : Int) := by omega
  rw [e] at *
  rw [show (x : Int) + ((y * 256 : Nat) : Int) = ((x + y * 256 : Nat) : Int) by omega] at *
  have h2 : x ||| y * 256 = x + y * 256 := by
    have := Nat.two_pow_add_eq_or_of_lt hx y
    rw [Nat.or_comm, show y * 256 = 2 ^ 8 * y by omega, ← this]; omega
  simp only [BitVec.ofInt_natCast, BitVec.toNat_or, BitVec.toNat_ofNat, hk]
  rw [Nat.mod_eq_of_lt (by omega), Nat.mod_eq_of_lt (by omega), h2]
  exact hw

theorem add_zero (ad : Addr) : ad.add 0 = ad := by cases ad; unfold Addr.add; split <;> simp_all
theorem add_succ (ad : Addr) (k : Nat) : ad.add (k + 1) = ⟨ad.block, ad.off + (k + 1), none⟩ := rfl
/-- A node and an error. -/
def NodeIs (k n s e : Int) (w : World) (x : Ending) (w' : World) : Prop := x = .returned (.tuple #[.agg #[.int .u8 k, .int .i64 n, .int .i64 s], .int .i64 e]) ∧ Below w.heap.size w w'
def nodeK : List UInt8 → Bool
  | [a, _, _, _] => a.toNat == 1 || a.toNat == 2
  | _ => false
def byteAt (l : List UInt8) (j : Nat) : Int := ((l.getD j 0).toNat : Int)
def nodeOf (l : List UInt8) : Int × Int × Int × Int := if nodeK l then (byteAt l 0, byteAt l 1, byteAt l 2 + 256 * byteAt l 3, 0) else (0, 0, 0, 5)
def NodeEnd (l : List UInt8) (w : World) (x : Ending) (w' : World) : Prop := NodeIs (nodeOf l).1 (nodeOf l).2.1 (nodeOf l).2.2.1 (nodeOf l).2.2.2 w x w'
theorem NodeEnd.of {l : List UInt8} {k n s e : Int} (h : nodeOf l = (k, n, s, e)) {w w' : World} {x : Ending} (hx : NodeIs k n s e w x w') : NodeEnd l w x w' := by unfold NodeEnd; rw [h]; exact hx
theorem nodeK_not {l : List UInt8} (h : l.length ≠ 4) : nodeK l = false := by
  unfold nodeK; split <;> simp_all
theorem four {l : List UInt8} (h : l.length = 4) : ∃ a b c d, l = [a, b, c, d] := by
  match l, h with
  | [a, b, c, d], _ => exact ⟨a, b, c, d, rfl⟩

set_option maxRecDepth 20000 in
set_option maxHeartbeats 1000000 in
theorem node_four (a b c d : UInt8) (A : Option Addr) (cap : Nat) (w : World) (hA : Bs w A [a, b, c, d]) : Calls Try.prog 20 #[.slice A 4 cap] w (NodeEnd [a, b, c, d] w) := by
  obtain ⟨ad, rfl, c0⟩ := hA.cell 0 (by simp)
  obtain ⟨_, e1, c1⟩ := hA.cell 1 (by simp)
  obtain ⟨_, e2, c2⟩ := hA.cell 2 (by simp)
  obtain ⟨_, e3, c3⟩ := hA.cell 3 (by simp)
  cases e1; cases e2; cases e3
  simp only [List.getElem_cons_zero, List.getElem_cons_succ, add_zero] at c0 c1 c2 c3
  have hb := below_alloc1 w (.cells #[.int .u8 0, .int .i64 0, .int .i64 0] 34)
  replace c0 := cell_below hb c0
  replace c1 := cell_below hb ((add_succ ad 0) ▸ c1)
  replace c2 := cell_below hb ((add_succ ad 1) ▸ c2)
  replace c3 := cell_below hb ((add_succ ad 2) ▸ c3)
  simp only [Nat.zero_add, Nat.reduceAdd] at c1 c2 c3
  clear hb
  have l0 : (a.toNat : Int) < 256 := by have := a.toNat_lt; omega
  have l1 : (b.toNat : Int) < 256 := by have := b.toNat_lt; omega
  have l2 : (c.toNat : Int) < 256 := by have := c.toNat_lt; omega
  have l3 : (d.toNat : Int) < 256 := by have := d.toNat_lt; omega
  by_cases h1 : a.toNat = 1
  · have HN : Hid (nodeOf [a, b, c, d] = (1, (b.toNat : Int), (c.toNat : Int) + 256 * (d.toNat : Int), 0)) := by show _ = _; simp [nodeOf, nodeK, byteAt, h1]
    rw [show (a.toNat : Int) = 1 by omega] at c0
    have HB := Lib.hid hA
    clear h1 hA
    generalize nb : (b.toNat : Int) = y1 at *
    generalize nc : (c.toNat : Int) = y2 at *
    generalize nd : (d.toNat : Int) = y3 at *
    have z1 : 0 ≤ y1 := by omega
    have z2 : 0 ≤ y2 := by omega
    have z3 : 0 ≤ y3 := by omega
    clear nb nc nd
    have HO := Lib.hid (or_bytes (k := .i64) rfl (a := y2) (b := y3) (by omega) (by omega) (IntWalk.i64_in _ (by omega)))
    go_enter Try.func20, Try.ntmps20
    go_wp2
    go_region
    go_wp2
    go_returns
    refine .of HN.out ⟨?_, (below_alloc1 _ _).drew⟩
    first | rfl | (rw [HO.out, Int.mul_comm]) | (rw [Int.mul_comm]) | trace_state
  · by_cases h2 : a.toNat = 2
    · have HN : Hid (nodeOf [a, b, c, d] = (2, (b.toNat : Int), (c.toNat : Int) + 256 * (d.toNat : Int), 0)) := by show _ = _; simp [nodeOf, nodeK, byteAt, h2]
      rw [show (a.toNat : Int) = 2 by omega] at c0
      have HB := Lib.hid hA
      clear h1 hA
      generalize nb : (b.toNat : Int) = y1 at *
      generalize nc : (c.toNat : Int) = y2 at *
      generalize nd : (d.toNat : Int) = y3 at *
      have z1 : 0 ≤ y1 := by omega
      have z2 : 0 ≤ y2 := by omega
      have z3 : 0 ≤ y3 := by omega
      clear nb nc nd
      have HO := Lib.hid (or_bytes (k := .i64) rfl (a := y2) (b := y3) (by omega) (by omega) (IntWalk.i64_in _ (by omega)))
      go_enter Try.func20, Try.ntmps20
      go_wp2
      go_region
      go_wp2
      go_returns
      refine .of HN.out ⟨?_, (below_alloc1 _ _).drew⟩
      first | rfl | (rw [HO.out, Int.mul_comm]) | (rw [Int.mul_comm]) | trace_state
    · have HN : Hid (nodeOf [a, b, c, d] = (0, 0, 0, 5)) := by show _ = _; simp [nodeOf, nodeK, h1, h2]
      have q1 : ((a.toNat : Int) != 1) = true := by simp; omega
      have q2 : ((a.toNat : Int) != 2) = true := by simp; omega
      clear h1 h2
      go_enter Try.func20, Try.ntmps20
      go_wp2
      go_returns
      exact .of HN.out ⟨rfl, below_alloc1 _ _⟩
set_option maxHeartbeats 1000000 in
theorem node_any (l : List UInt8) (n : Nat) (hn : l.length = n) (A : Option Addr) (cap : Nat) (w : World) (hA : Bs w A l) : Calls Try.prog 20 #[.slice A n cap] w (NodeEnd l w) := by
  by_cases h4 : l.length = 4
  · obtain ⟨a, b, c, d, rfl⟩ := four h4
    obtain rfl : n = 4 := by rw [← hn]; rfl
    exact node_four a b c d A cap w hA
  · have HN : Hid (nodeOf l = (0, 0, 0, 5)) := by show _ = _; unfold nodeOf; rw [nodeK_not h4]; rfl
    rw [hn] at h4
    have q1 : ((n : Int) != 4) = true := by simp; omega
    clear h4 hA
    go_enter Try.func20, Try.ntmps20
    go_wp2
    go_returns
    exact .of HN.out ⟨rfl, below_alloc1 _ _⟩

set_option maxRecDepth 20000 in
set_option maxHeartbeats 1000000 in
theorem refNode_four (a b c d : UInt8) (A : Option Addr) (cap : Nat) (w : World) (hA : Bs w A [a, b, c, d]) : Calls Try.prog 21 #[.slice A 4 cap] w (NodeEnd [a, b, c, d] w) := by
  obtain ⟨ad, rfl, c0⟩ := hA.cell 0 (by simp)
  obtain ⟨_, e1, c1⟩ := hA.cell 1 (by simp)
  obtain ⟨_, e2, c2⟩ := hA.cell 2 (by simp)
  obtain ⟨_, e3, c3⟩ := hA.cell 3 (by simp)
  cases e1; cases e2; cases e3
  simp only [List.getElem_cons_zero, List.getElem_cons_succ, add_zero] at c0 c1 c2 c3
  have hb := below_alloc1 w (.cells #[.int .u8 0, .int .i64 0, .int .i64 0] 34)
  replace c0 := cell_below hb c0
  replace c1 := cell_below hb ((add_succ ad 0) ▸ c1)
  replace c2 := cell_below hb ((add_succ ad 1) ▸ c2)
  replace c3 := cell_below hb ((add_succ ad 2) ▸ c3)
  simp only [Nat.zero_add, Nat.reduceAdd] at c1 c2 c3
  clear hb
  have l0 : (a.toNat : Int) < 256 := by have := a.toNat_lt; omega
  have l1 : (b.toNat : Int) < 256 := by have := b.toNat_lt; omega
  have l2 : (c.toNat : Int) < 256 := by have := c.toNat_lt; omega
  have l3 : (d.toNat : Int) < 256 := by have := d.toNat_lt; omega
  by_cases h1 : a.toNat = 1
  · have HN : Hid (nodeOf [a, b, c, d] = (1, (b.toNat : Int), (c.toNat : Int) + 256 * (d.toNat : Int), 0)) := by show _ = _; simp [nodeOf, nodeK, byteAt, h1]
    rw [show (a.toNat : Int) = 1 by omega] at c0
    have HB := Lib.hid hA
    clear h1 hA
    generalize nb : (b.toNat : Int) = y1 at *
    generalize nc : (c.toNat : Int) = y2 at *
    generalize nd : (d.toNat : Int) = y3 at *
    have z1 : 0 ≤ y1 := by omega
    have z2 : 0 ≤ y2 := by omega
    have z3 : 0 ≤ y3 := by omega
    clear nb nc nd
    have HO := Lib.hid (or_bytes (k := .i64) rfl (a := y2) (b := y3) (by omega) (by omega) (IntWalk.i64_in _ (by omega)))
    go_enter Try.func21, Try.ntmps21
    go_wp2
    go_region
    go_wp2
    go_returns
    refine .of HN.out ⟨?_, (below_alloc1 _ _).drew⟩
    first | rfl | (rw [HO.out, Int.mul_comm]) | (rw [Int.mul_comm]) | trace_state
  · by_cases h2 : a.toNat = 2
    · have HN : Hid (nodeOf [a, b, c, d] = (2, (b.toNat : Int), (c.toNat : Int) + 256 * (d.toNat : Int), 0)) := by show _ = _; simp [nodeOf, nodeK, byteAt, h2]
      rw [show (a.toNat : Int) = 2 by omega] at c0
      have HB := Lib.hid hA
      clear h1 hA
      generalize nb : (b.toNat : Int) = y1 at *
      generalize nc : (c.toNat : Int) = y2 at *
      generalize nd : (d.toNat : Int) = y3 at *
      have z1 : 0 ≤ y1 := by omega
      have z2 : 0 ≤ y2 := by omega
      have z3 : 0 ≤ y3 := by omega
      clear nb nc nd
      have HO := Lib.hid (or_bytes (k := .i64) rfl (a := y2) (b := y3) (by omega) (by omega) (IntWalk.i64_in _ (by omega)))
      go_enter Try.func21, Try.ntmps21
      go_wp2
      go_region
      go_wp2
      go_returns
      refine .of HN.out ⟨?_, (below_alloc1 _ _).drew⟩
      first | rfl | (rw [HO.out, Int.mul_comm]) | (rw [Int.mul_comm]) | trace_state
    · have HN : Hid (nodeOf [a, b, c, d] = (0, 0, 0, 5)) := by show _ = _; simp [nodeOf, nodeK, h1, h2]
      have q1 : ((a.toNat : Int) != 1) = true := by simp; omega
      have q2 : ((a.toNat : Int) != 2) = true := by simp; omega
      clear h1 h2
      go_enter Try.func21, Try.ntmps21
      go_wp2
      go_returns
      exact .of HN.out ⟨rfl, below_alloc1 _ _⟩
set_option maxHeartbeats 1000000 in
theorem refNode_any (l : List UInt8) (n : Nat) (hn : l.length = n) (A : Option Addr) (cap : Nat) (w : World) (hA : Bs w A l) : Calls Try.prog 21 #[.slice A n cap] w (NodeEnd l w) := by
  by_cases h4 : l.length = 4
  · obtain ⟨a, b, c, d, rfl⟩ := four h4
    obtain rfl : n = 4 := by rw [← hn]; rfl
    exact refNode_four a b c d A cap w hA
  · have HN : Hid (nodeOf l = (0, 0, 0, 5)) := by show _ = _; unfold nodeOf; rw [nodeK_not h4]; rfl
    rw [hn] at h4
    have q1 : ((n : Int) != 4) = true := by simp; omega
    clear h4 hA
    go_enter Try.func21, Try.ntmps21
    go_wp2
    go_returns
    exact .of HN.out ⟨rfl, below_alloc1 _ _⟩
end Go.Proofs.Ytkianpkkligljaa
