/- The statements' own works, of layer 6. -/
import Derived.Test.YtkianpkkligljaaRefPut
namespace Go.Proofs.Ytkianpkkligljaa
open Go.RowKit

theorem same_n (a b : List UInt8) (n m : Nat) (hn : a.length = n) (hm : b.length = m) (A B : Option Addr) (ca cb : Nat) (w : World) (ha : Bs w A a) (hb : Bs w B b) :
    Calls Try.prog 14 #[.slice A n ca, .slice B m cb] w (SameEnd w a b) := by
  subst hn hm; exact same_any a b A B ca cb w ha hb

def ab : ByteArray := ⟨#[97, 98]⟩
def emp : ByteArray := ⟨#[]⟩
def a1 : ByteArray := ⟨#[97]⟩
theorem may_ab : mayKey 5 2 ab 0 = true := by decide
theorem may_8 : mayKey 5 3 emp 8 = false := by unfold mayKey; rw [Lib.toList_data]; decide
theorem key_ab : keyBytes 5 2 ab 0 = [5, 0, 2, 2, 97, 98] := by decide
theorem before_works : before 5 1 emp 0 5 2 a1 0 = true := by decide

set_option maxRecDepth 100000 in
set_option maxHeartbeats 1000000 in
theorem works06 (w : World) : Calls Try.prog 15 #[] w (BoolEnd true w) := by
  have K1 := Lib.hid (fun w => key_ab ▸ putKey_entry 5 ab 0 (by simp [ab, maxLen, ByteArray.size]) may_ab w)
  have K2 := Lib.hid (fun w => putKey_no 5 3 emp 8 (by simp [emp, maxLen, ByteArray.size]) may_8 w)
  have KB := Lib.hid (fun w => before_works ▸ before_any 5 1 emp 0 5 2 a1 0 w)
  go_enter Try.func15, Try.ntmps15
  go_wp2_with fail
  refine (K1.out _).mono ?_
  rintro e w1 ⟨v1, rfl, own1, hb1⟩
  obtain ⟨A1, c1, rfl, src1⟩ := own_slice own1
  go_wp2_with fail
  refine (K2.out _).mono ?_
  rintro e w2 (⟨_, rfl, hb2⟩ | ⟨h, _⟩)
  · have bs2 := (Bs.of_src (l := [5, 0, 2, 2, 97, 98]) (by simp) src1).below hb2
    go_wp2_with fail
    have src3 := Src.new w2 (vals [5, 0, 2, 2, 97, 98]) 5
    have bs3 := Bs.of_src (l := [5, 0, 2, 2, 97, 98]) (by simp) src3
    refine (same_n [5, 0, 2, 2, 97, 98] [5, 0, 2, 2, 97, 98] 6 6 rfl rfl _ _ _ _ _ (bs2.below (below_alloc1 w2 _)) bs3).mono ?_
    rintro e w3 ⟨rfl, hb3⟩
    have hb23 := below_of (below_alloc1 w2 (.cells (vals [5, 0, 2, 2, 97, 98]).toArray 5)) hb3
    clear src3 bs3 src1 bs2
    go_wp2_with fail
    refine (KB.out _).mono ?_
    rintro e w4 ⟨rfl, hb4⟩
    go_wp2
    go_ret
    exact ⟨rfl, below_of (below_of (below_of hb1 hb2) hb23) hb4⟩
  · rw [may_8] at h; cases h
end Go.Proofs.Ytkianpkkligljaa
