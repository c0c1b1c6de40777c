/- strings.Cut at a separator of the one byte '/', as a Lean function, and its contract. -/
import Derived.Test.YtelbnhcbmaionaaPx0
import Derived.Test.YtelbnhcbmaionaaShelf
import Derived.RegionTactic
import Derived.Lib.Hide
namespace Go.Proofs.Ytelbnhcbmaionaa.P
open Go.RowKit Go.Proofs.YtelbnhcbmaionaaW.PrintWords Go.Proofs.YtelbnhcbmaionaaW.PrintLast Go.Proofs.YtelbnhcbmaionaaW.PrintMore

theorem index_range (l : List UInt8) (c : UInt8) : Lib.indexByte l c = -1 ∨ ∃ i : Nat, Lib.indexByte l c = i ∧ i < l.length := by
  induction l with
  | nil => exact .inl rfl
  | cons b l ih =>
    unfold Lib.indexByte
    split
    · exact .inr ⟨0, rfl, by simp⟩
    · rcases ih with h | ⟨i, h, hi⟩
      · left; simp [h]
      · right
        refine ⟨i + 1, ?_, by simp; omega⟩
        have : ((i : Int) == -1) = false := by rw [beq_eq_false_iff_ne]; omega
        rw [h, this]
        simp
def cutOf (s : ByteArray) : ByteArray × ByteArray × Bool :=
  if Lib.indexByte s.data.toList 47 = -1 then (s, ⟨#[]⟩, false) else (s.extract 0 (Lib.indexByte s.data.toList 47).toNat, s.extract ((Lib.indexByte s.data.toList 47).toNat + 1) s.size, true)
def strings_Cut.f (a0 a1 : ByteArray) : Option (ByteArray × ByteArray × Bool) := if a1.toList = ([47] : List UInt8) then (if a0.size ≤ 9223372036854775806 then some (cutOf a0) else none) else none

set_option maxHeartbeats 2000000 in
set_option maxRecDepth 100000 in
theorem cut_lite (s : ByteArray) (hs : s.size ≤ 9223372036854775806) (w : World) :
    Calls Try.prog 25 #[.string s, .string ⟨#[47]⟩] w fun e w' => e = .returned (.tuple #[.string (cutOf s).1, .string (cutOf s).2.1, .bool (cutOf s).2.2]) ∧ Drawn0 w w' := by
  rcases index_range s.data.toList 47 with hix | ⟨i, hix, hi⟩
  · have e1 : cutOf s = (s, ⟨#[]⟩, false) := by unfold cutOf; rw [if_pos hix]
    rw [e1]
    go_enter Try.func25, Try.ntmps25
    go_wp2_with (go_at_call 29; refine (Try.stringslite_Index_one s 47 _).mono ?_; rintro e w' ⟨rfl, rfl⟩; rw [hix])
    go_ret3
    exact ⟨rfl, Drawn0.refl _⟩
  · have hl : i < s.size := by rw [data_length] at hi; exact hi
    have e1 : cutOf s = (s.extract 0 i, s.extract (i + 1) s.size, true) := by unfold cutOf; rw [if_neg (by omega), hix]; rfl
    rw [e1]
    have c1 : (0 : Int) ≤ ↑i := by omega
    have c2 : (↑i : Int) ≤ ↑s.size := by omega
    have c3 : (0 : Int) ≤ ↑i + 1 := by omega
    have c4 : (↑i + 1 : Int) ≤ ↑s.size := by omega
    have HX := Lib.hid hix
    clear hix
    go_enter Try.func25, Try.ntmps25
    go_wp2_with (go_at_call 29; refine (Try.stringslite_Index_one s 47 _).mono ?_; rintro e w' ⟨rfl, rfl⟩; rw [HX.out])
    go_region
    go_wp2
    go_ret3
    exact ⟨by first | rfl | simp, (Drawn0.refl _).step 1⟩
set_option maxHeartbeats 2000000 in
set_option maxRecDepth 100000 in
theorem strings_Cut.calls (a0 : ByteArray) (a1 : ByteArray) (r1 : ByteArray) (r2 : ByteArray) (r3 : Bool) (w : World) (h : strings_Cut.f a0 a1 = some (r1, r2, r3)) :
    Calls Try.prog 20 #[.string a0, .string a1] w fun e w' => e = .returned (.tuple #[.string r1, .string r2, .bool r3]) ∧ Drawn0 w w' := by
  unfold strings_Cut.f at h
  split at h
  · rename_i h1
    split at h
    · rename_i h2
      have ha : a1 = ⟨#[47]⟩ := by
        rw [Lib.toList_data] at h1
        have := Lib.mk_data a1
        rw [h1] at this
        exact this.symm
      subst ha
      have he : cutOf a0 = (r1, r2, r3) := Option.some.inj h
      obtain rfl : r1 = (cutOf a0).1 := by rw [he]
      obtain rfl : r2 = (cutOf a0).2.1 := by rw [he]
      obtain rfl : r3 = (cutOf a0).2.2 := by rw [he]
      clear he
      have hc := cut_lite a0 h2
      clear h h1
      go_enter Try.func20, Try.ntmps20
      go_wp2_with (go_at_call 25; refine (hc _).mono ?_; rintro e w' ⟨rfl, ⟨n, rfl⟩⟩)
      go_ret3
      exact ⟨rfl, (Drawn0.refl _).step _⟩
    · cases h
  · cases h
end Go.Proofs.Ytelbnhcbmaionaa.P
