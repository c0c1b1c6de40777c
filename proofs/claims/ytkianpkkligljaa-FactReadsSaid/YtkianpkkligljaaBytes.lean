/- Bytes in memory, and what the references' Same computes. -/
import Derived.Test.YtkianpkkligljaaNames
import Derived.BigQuiet
import Derived.Deep.QuietTactic
import Derived.Lib.QuietBelow
import Derived.Deep.LoopGhost
import Derived.Below
import Derived.OwnWalk
namespace Go.Proofs.Ytkianpkkligljaa
open Go.RowKit

/-- At an address (or nowhere, where there are none) these bytes stand. -/
structure Bs (w : World) (A : Option Addr) (l : List UInt8) : Prop where
  small : l.length ≤ 140737488355328
  cell : ∀ j (h : j < l.length), ∃ ad, A = some ad ∧ w.cell? (ad.add j) = some (.int .u8 ((l[j]'h).toNat : Int))
theorem Bs.nil (w : World) (A : Option Addr) : Bs w A [] := ⟨by simp, fun j h => absurd h (by simp)⟩
theorem cell_below {w w' : World} (h : Below w.heap.size w w') {a : Addr} {v : Value} (hc : w.cell? a = some v) : w'.cell? a = some v := (h.cell (World.block_lt_of_cell? w a hc)).trans hc
theorem Bs.below {w w' : World} {A : Option Addr} {l : List UInt8} (h : Bs w A l) (hb : Below w.heap.size w w') : Bs w' A l :=
  ⟨h.small, fun j hj => by obtain ⟨ad, e, hc⟩ := h.cell j hj; exact ⟨ad, e, cell_below hb hc⟩⟩
theorem below_then {B : Nat} {w w1 w2 : World} (h : Below B w w1) (hB : B ≤ w1.heap.size) (k : Below w1.heap.size w1 w2) : Below B w w2 := h.trans (k.mono hB)
theorem below_of {w w1 w2 : World} (h : Below w.heap.size w w1) (k : Below w1.heap.size w1 w2) : Below w.heap.size w w2 := h.trans (k.mono h.size)
theorem below_drewN {B : Nat} {w W : World} (h : Below B w W) (n : Nat) : Below B w (W.drewN n) := ⟨h.os, h.tape, h.output, h.size, h.block⟩

/-- Two rows of bytes agree up to k. -/
def agree (a b : List UInt8) (k : Nat) : Prop := ∀ j, j < k → a[j]? = b[j]?
theorem agree_all {a b : List UInt8} (hl : a.length = b.length) (h : agree a b a.length) : a = b := by
  apply List.ext_getElem?
  intro j
  by_cases hj : j < a.length
  · exact h j hj
  · rw [List.getElem?_eq_none (by omega), List.getElem?_eq_none (by omega)]

theorem agree_succ {a b : List UInt8} {k : Nat} (h : agree a b k) (ha : k < a.length) (hb : k < b.length) (he : (a[k]'ha) = (b[k]'hb)) : agree a b (k + 1) := fun j hj => by
  by_cases hjk : j = k
  · subst hjk; rw [List.getElem?_eq_getElem ha, List.getElem?_eq_getElem hb, he]
  · exact h j (by omega)

def SameEnd (w : World) (a b : List UInt8) (e : Ending) (w' : World) : Prop := e = .returned (.bool (a == b)) ∧ Below w.heap.size w w'

set_option maxHeartbeats 400000 in
theorem same_any (a b : List UInt8) (A B : Option Addr) (ca cb : Nat) (w : World) (ha : Bs w A a) (hb : Bs w B b) :
    Calls Try.prog 14 #[.slice A a.length ca, .slice B b.length cb] w (SameEnd w a b) := by
  have la := ha.small
  have lb := hb.small
  by_cases hl : a.length = b.length
  · have t : ((a.length : Int) == (b.length : Int)) = true := by simp [hl]
    have t2 : ((a.length : Int) != (b.length : Int)) = false := by simp [hl]
    have HL := Lib.hid hl
    clear hl
    go_enter Try.func14, Try.ntmps14
    go_wp2
    go_loopg [5] a.length (fun n i wr => ∃ k : Nat, k ≤ a.length ∧ n = a.length - k ∧ i = .int .i64 k ∧ Hid (agree a b k) ∧ Below w.heap.size w wr)
    case atStart => exact ⟨0, Nat.zero_le _, by omega, rfl, fun j h => absurd h (by omega), Below.refl _ _⟩
    case round =>
      obtain ⟨k, hk, rfl, rfl, hag, hbw⟩ := hrel
      by_cases hlt : k < a.length
      · have hlb : k < b.length := by have := HL.out; omega
        obtain ⟨ad, rfl, hc⟩ := (ha.below hbw).cell k hlt
        obtain ⟨bd, rfl, hd⟩ := (hb.below hbw).cell k hlb
        have i0 : (0 : Int) ≤ (k : Int) := by omega
        have i1 : (k : Int) < (a.length : Int) := by omega
        have i2 : (k : Int) < (b.length : Int) := by omega
        by_cases he : (a[k]'hlt) = (b[k]'hlb)
        · have q : ((((a[k]'hlt).toNat : Int)) != ((b[k]'hlb).toNat : Int)) = false := by rw [he]; simp
          have HE := Lib.hid he
          clear he
          go_wp2
          go_quiet (fail)
          go_wp2
          go_roundg (a.length - (k + 1))
          case measure => omega
          case rel => exact ⟨k + 1, by omega, rfl, by go_num, agree_succ hag.out hlt hlb HE.out, below_drewN hbw _⟩
        · have q : ((((a[k]'hlt).toNat : Int)) != ((b[k]'hlb).toNat : Int)) = true := by
            rw [bne_iff_ne]; intro h; exact he (UInt8.toNat_inj.1 (by omega))
          have HN : Hid ((a == b) = false) := by
            show (a == b) = false
            rw [beq_eq_false_iff_ne]; intro h; subst h; exact he rfl
          clear he
          go_wp2
          go_quiet (fail)
          go_wp2
          go_ret
          exact ⟨ret_bool HN.out.symm, below_drewN hbw _⟩
      · obtain rfl : k = a.length := by omega
        have HN : Hid ((a == b) = true) := by
          show (a == b) = true
          rw [beq_iff_eq]; exact agree_all HL.out hag.out
        go_wp2
        go_ret
        exact ⟨ret_bool HN.out.symm, hbw⟩
  · have t2 : ((a.length : Int) != (b.length : Int)) = true := by rw [bne_iff_ne]; omega
    have HN : Hid ((a == b) = false) := by
      show (a == b) = false
      rw [beq_eq_false_iff_ne]; intro h; exact hl (by rw [h])
    clear hl
    go_enter Try.func14, Try.ntmps14
    go_wp2
    go_ret
    exact ⟨ret_bool HN.out.symm, Below.refl _ _⟩
end Go.Proofs.Ytkianpkkligljaa
