/- Names: what path.Name and the document's Name compute. -/
import Derived.Test.YtkianpkkligljaaChecked
import Derived.WalkKit
import Derived.WalkLawsBesides
import Derived.WalkSpells
import Derived.Outline
import Derived.Lib.Hide
import Derived.IntWalk
import Derived.Lib.Strings
namespace Go.Proofs.Ytkianpkkligljaa
open Go.RowKit

theorem ret_bool {a b : Bool} (h : a = b) : Ending.returned (.bool a) = .returned (.bool b) := by rw [h]
theorem ret_int {k : IntKind} {a b : Int} (h : a = b) : Ending.returned (.int k a) = .returned (.int k b) := by rw [h]

/-- May a byte stand in a name? -/
def mayI (n : Int) : Bool := (decide (97 ≤ n) && decide (n ≤ 122)) || (decide (48 ≤ n) && decide (n ≤ 57)) || n == 46 || n == 45
theorem mayI_iff (n : Int) : mayI n = true ↔ (97 ≤ n ∧ n ≤ 122) ∨ (48 ≤ n ∧ n ≤ 57) ∨ n = 46 ∨ n = 45 := by
  unfold mayI; simp; omega
theorem mayI_yes {n : Int} (h : (97 ≤ n ∧ n ≤ 122) ∨ (48 ≤ n ∧ n ≤ 57) ∨ n = 46 ∨ n = 45) : true = mayI n := ((mayI_iff n).2 h).symm
theorem mayI_no {n : Int} (h : ¬ ((97 ≤ n ∧ n ≤ 122) ∨ (48 ≤ n ∧ n ≤ 57) ∨ n = 46 ∨ n = 45)) : false = mayI n := by
  have := mayI_iff n
  cases hm : mayI n
  · rfl
  · exact absurd (this.1 hm) h

set_option maxHeartbeats 400000 in
theorem may_any (n : Int) (w : World) : Calls Try.prog 42 #[.int .u8 n] w fun e w' => e = .returned (.bool (mayI n)) ∧ w = w' := by
  go_enter Try.func42, Try.ntmps42
  go_wp2
  all_goals go_ret
  all_goals exact ⟨ret_bool (by first | exact mayI_yes (by omega) | exact mayI_no (by omega) | (simp only [beq_iff_eq] at *; exact mayI_yes (by omega)) | (simp only [beq_eq_false_iff_ne, ne_eq] at *; exact mayI_no (by omega)) | (simp only [beq_eq_false_iff_ne, ne_eq, beq_iff_eq] at *; first | exact mayI_no (by omega) | exact mayI_yes (by omega))), rfl⟩

/-- The bytes up to k may all stand in a name. -/
def mayTo (s : ByteArray) (k : Nat) : Prop := ∀ j, (h : j < s.size) → j < k → mayI ((s[j]'h).toNat : Int) = true
/-- Is a text a name? -/
def nameB (s : ByteArray) : Bool := s.data.toList.all (fun c => mayI (c.toNat : Int)) && decide (1 ≤ s.size) && decide (s.size ≤ 12) && (s.data.toList != [46]) && (s.data.toList != [46, 46])
theorem all_of_mayTo {s : ByteArray} (h : mayTo s s.size) : s.data.toList.all (fun c => mayI (c.toNat : Int)) = true := by
  rw [List.all_eq_true]
  intro c hc
  obtain ⟨j, hj, rfl⟩ := List.getElem_of_mem hc
  exact h j (by simpa using hj) (by simpa using hj)
theorem not_all {s : ByteArray} {j : Nat} (h : j < s.size) (hm : mayI ((s[j]'h).toNat : Int) = false) : s.data.toList.all (fun c => mayI (c.toNat : Int)) = false := by
  rw [List.all_eq_false]
  refine ⟨s[j], ?_, by simp [hm]⟩
  show s.data[j] ∈ s.data.toList
  exact Array.mem_toList_iff.2 (Array.getElem_mem _)

theorem nameB_of {s : ByteArray} (h : s.data.toList.all (fun c => mayI (c.toNat : Int)) = true) : nameB s = (decide ((1 : Int) ≤ (s.size : Int)) && (decide ((s.size : Int) ≤ 12) && ((!(s.toList == [46])) && !(s.toList == [46, 46])))) := by
  unfold nameB
  rw [h, Lib.toList_data]
  simp only [Bool.true_and, bne, Bool.and_assoc]
  congr 1
  · rw [Bool.eq_iff_iff]; simp; omega
  · congr 1
    rw [Bool.eq_iff_iff]; simp; omega

set_option maxHeartbeats 400000 in
theorem name_any (s : ByteArray) (hs : s.size ≤ maxLen) (w : World) : Calls Try.prog 32 #[.string s] w fun e w' => e = .returned (.bool (nameB s)) ∧ w = w' := by
  unfold maxLen at hs
  go_enter Try.func32, Try.ntmps32
  go_wp2
  go_loop [3, 6] (fun _ i => ∃ k : Nat, k ≤ s.size ∧ i = .int .i64 k ∧ mayTo s k) (fun _ i => s.size - (intOf i).toNat)
  case atStart => exact ⟨0, Nat.zero_le _, rfl, fun j _ h => absurd h (by omega)⟩
  case round =>
    obtain ⟨k, hk, rfl, hm⟩ := hrel
    by_cases hlt : k < s.size
    · cases hc : mayI ((s[k]'hlt).toNat : Int)
      · clear hm
        go_wp2_with (go_at_call 42; refine (may_any _ _).mono ?_; rintro e w' ⟨rfl, rfl⟩)
        go_ret
        exact ⟨ret_bool (by unfold nameB; rw [not_all hlt hc]; simp), rfl⟩
      · have H := Lib.hid hm
        clear hm
        have HC := Lib.hid hc
        go_wp2_with (go_at_call 42; refine (may_any _ _).mono ?_; rintro e w' ⟨rfl, rfl⟩)
        go_round
        case rel => exact ⟨k + 1, by omega, by go_num, fun j h1 h2 => by
          by_cases hj : j = k
          · subst hj; exact HC.out
          · exact H.out j h1 (by omega)⟩
        case measure => simp [intOf]; omega
    · obtain rfl : k = s.size := by omega
      have ha := all_of_mayTo hm
      have HA := Lib.hid ha
      clear hm ha
      go_wp2
      all_goals go_ret
      all_goals exact ⟨ret_bool (by rw [nameB_of HA.out]; first | (simp [*]; done) | (simp [*]; omega) | (simp; omega)), rfl⟩

set_option maxHeartbeats 1000000 in
theorem refName_any (s : ByteArray) (hs : s.size ≤ maxLen) (w : World) : Calls Try.prog 33 #[.string s] w fun e w' => e = .returned (.bool (nameB s)) ∧ w = w' := by
  unfold maxLen at hs
  go_enter Try.func33, Try.ntmps33
  go_wp2
  go_loop [3, 4] (fun i _ => ∃ k : Nat, k ≤ s.size ∧ i = .int .i64 k ∧ mayTo s k) (fun i _ => s.size - (intOf i).toNat)
  case atStart => exact ⟨0, Nat.zero_le _, rfl, fun j _ h => absurd h (by omega)⟩
  case round =>
    obtain ⟨k, hk, rfl, hm⟩ := hrel
    by_cases hlt : k < s.size
    · have H := Lib.hid hm
      clear hm
      cases hc : mayI ((s[k]'hlt).toNat : Int)
      · have HC := Lib.hid hc
        have hno : ¬ ((97 ≤ ((s[k]'hlt).toNat : Int) ∧ ((s[k]'hlt).toNat : Int) ≤ 122) ∨ (48 ≤ ((s[k]'hlt).toNat : Int) ∧ ((s[k]'hlt).toNat : Int) ≤ 57) ∨ ((s[k]'hlt).toNat : Int) = 46 ∨ ((s[k]'hlt).toNat : Int) = 45) := fun h => Bool.false_ne_true (hc.symm.trans ((mayI_iff _).2 h))
        have e1 : (((s[k]'hlt).toNat : Int) == 46) = false := beq_eq_false_iff_ne.2 (by omega)
        have e2 : (((s[k]'hlt).toNat : Int) == 45) = false := beq_eq_false_iff_ne.2 (by omega)
        have hr : ((s[k]'hlt).toNat : Int) < 48 ∨ 122 < ((s[k]'hlt).toNat : Int) ∨ (57 < ((s[k]'hlt).toNat : Int) ∧ ((s[k]'hlt).toNat : Int) < 97) := by omega
        clear hno hc
        rcases hr with hr | hr | ⟨hr, hr2⟩
        · go_wp2
          go_ret
          exact ⟨ret_bool (by unfold nameB; rw [not_all hlt HC.out]; simp), rfl⟩
        · have d1 : decide (((s[k]'hlt).toNat : Int) ≤ 122) = false := decide_eq_false (by omega)
          have d2 : decide (((s[k]'hlt).toNat : Int) ≤ 57) = false := decide_eq_false (by omega)
          go_wp2
          go_ret
          exact ⟨ret_bool (by unfold nameB; rw [not_all hlt HC.out]; simp), rfl⟩
        · have d2 : decide (((s[k]'hlt).toNat : Int) ≤ 57) = false := decide_eq_false (by omega)
          go_wp2
          go_ret
          exact ⟨ret_bool (by unfold nameB; rw [not_all hlt HC.out]; simp), rfl⟩
      · have HC := Lib.hid hc
        have hr := (mayI_iff _).1 hc
        clear hc
        have fin : mayTo s (k + 1) := fun j h1 h2 => by
          by_cases hj : j = k
          · subst hj; exact HC.out
          · exact H.out j h1 (by omega)
        have FIN := Lib.hid fin
        clear fin
        rcases hr with ⟨h1, h2⟩ | ⟨h1, h2⟩ | hr | hr
        · go_wp2
          go_round
          case rel => exact ⟨k + 1, by omega, by go_num, FIN.out⟩
          case measure => simp [intOf]; omega
        · go_wp2
          go_round
          case rel => exact ⟨k + 1, by omega, by go_num, FIN.out⟩
          case measure => simp [intOf]; omega
        · have e1 : (((s[k]'hlt).toNat : Int) == 46) = true := by simp [hr]
          have h1 : ((s[k]'hlt).toNat : Int) < 48 := by omega
          clear hr
          go_wp2
          go_round
          case rel => exact ⟨k + 1, by omega, by go_num, FIN.out⟩
          case measure => simp [intOf]; omega
        · have e1 : (((s[k]'hlt).toNat : Int) == 46) = false := by simp; omega
          have e2 : (((s[k]'hlt).toNat : Int) == 45) = true := by simp [hr]
          have h1 : ((s[k]'hlt).toNat : Int) < 48 := by omega
          clear hr
          go_wp2
          go_round
          case rel => exact ⟨k + 1, by omega, by go_num, FIN.out⟩
          case measure => simp [intOf]; omega
    · obtain rfl : k = s.size := by omega
      have ha := all_of_mayTo hm
      have HA := Lib.hid ha
      clear hm ha
      go_wp2
      all_goals go_ret
      all_goals exact ⟨ret_bool (by rw [nameB_of HA.out]; first | (simp [*]; done) | (simp [*]; omega) | (simp; omega)), rfl⟩
end Go.Proofs.Ytkianpkkligljaa
