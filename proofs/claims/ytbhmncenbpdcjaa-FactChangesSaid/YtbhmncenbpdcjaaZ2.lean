/- Texts of this claim, laid one behind the other: Px2, Px6, Px8, Px12, FPure2, FClone, Given, FOwn, FReg, DelFact, RowSet, FRound, FLoop, FApply, FSame, FRefOne. -/
import Derived.Lib.Hide
import Derived.IntWalk
import Derived.Lib.SliceRun
import Derived.RangeFuncBox
import Derived.RangeFuncCalls
import Derived.RangeFuncNested
import Derived.RangeFuncBound
import Derived.RangeFuncLeaves
import Derived.Shelf.Abstract
import Derived.Shelf.RegionOpen
import Derived.WalkKit
import Derived.OwnWalkIn
import Derived.TacticsInMore
import Derived.LoopNIn
import Derived.LoopIn
import Derived.Stop.RegionWithIn
import Derived.Deep.RegionHeld3
import Derived.Deep.DrawnRows
import Derived.Maps.AppendAt
import Derived.Outline
import Derived.Test.YtbhmncenbpdcjaaZ1
section
/- Printed by a program of this workplace (wip/print/gprint.py, over the kit's print.py): functions of the program as Lean functions, and that the Go text comes to their answers. -/
namespace Go.Proofs.Ytbhmncenbpdcjaa.P
open Go.RowKit Go.Proofs.YtbhmncenbpdcjaaW.PrintWords Go.Proofs.YtbhmncenbpdcjaaW.PrintLast Go.Proofs.YtbhmncenbpdcjaaW.PrintMore
attribute [local go_sem] max2_int min2_int max_two min_two max_three min_three max_four min_four   -- for this text's walks alone
set_option linter.unusedVariables false
set_option linter.unusedSimpArgs false

/-! ### carrackref00_Same: function 23 -/
def carrackref00_Same.l0 : Nat → List Int → List Int → Int → Option (Bool)
  | 0, _, _, _ => none
  | k + 1, x0, x1, x5 => if x5 < (x0.length : Int) then (if 0 ≤ x5 then (if x5 < (x1.length : Int) then (if (rd x0 x5) = (rd x1 x5) then (carrackref00_Same.l0 k x0 x1 (wrap64 (x5 + 1))) else (some false)) else (none)) else (none)) else (some true)
def carrackref00_Same.f (k : Nat) (l0 : List Int) (l1 : List Int) : Option (Bool) := if (l0.length : Int) = (l1.length : Int) then (carrackref00_Same.l0 k l0 l1 0) else (some false)
theorem carrackref00_Same.mono_l : ∀ k, (∀ y0 y1 y2, LeO (carrackref00_Same.l0 k y0 y1 y2) (carrackref00_Same.l0 (k + 1) y0 y1 y2))
  | 0 => fun _ _ _ r h => by simp [carrackref00_Same.l0] at h
  | k + 1 => by
    have ih0 := carrackref00_Same.mono_l k
    · intro y0 y1 y2
      unfold carrackref00_Same.l0
      repeat' first
      | (with_reducible exact ih0 _ _ _)
      | (with_reducible exact LeO.refl _)
      | (with_reducible exact LeO.none _)
      | (with_reducible refine LeO.ite ?_ ?_)
      | (with_reducible refine LeO.bind ?_ (fun _ => ?_))
      | exact ih0 _ _ _
      | exact LeO.none _
      | refine LeO.ite ?_ ?_
      | refine LeO.bind ?_ (fun _ => ?_)
theorem carrackref00_Same.mono : ∀ a0 a1 k, LeO (carrackref00_Same.f k a0 a1) (carrackref00_Same.f (k + 1) a0 a1) := by
  intro a0 a1 k
  have ih0 := carrackref00_Same.mono_l k
  unfold carrackref00_Same.f
  repeat' first
      | (with_reducible exact ih0 _ _ _)
      | (with_reducible exact LeO.refl _)
      | (with_reducible exact LeO.none _)
      | (with_reducible refine LeO.ite ?_ ?_)
      | (with_reducible refine LeO.bind ?_ (fun _ => ?_))
      | exact ih0 _ _ _
      | exact LeO.none _
      | refine LeO.ite ?_ ?_
      | refine LeO.bind ?_ (fun _ => ?_)
set_option maxHeartbeats 8000000 in
set_option maxRecDepth 100000 in
theorem carrackref00_Same.calls (k : Nat) (A0 : Option Addr) (c0 : Nat) (l0 : List Int) (A1 : Option Addr) (c1 : Nat) (l1 : List Int) (r : Bool) (w : World) (hr0 : Kd.C (Kd.int .u8) w A0 l0.length l0) (hc0 : l0.length ≤ c0) (hr1 : Kd.C (Kd.int .u8) w A1 l1.length l1) (hc1 : l1.length ≤ c1) (h : carrackref00_Same.f k l0 l1 = some r) :
    Calls Try.prog 23 #[.slice A0 l0.length c0, .slice A1 l1.length c1] w fun e w' => e = .returned (.bool r) ∧ Drawn0 w w' := by
  have HR0 := Aside0.mk hr0
  have HC0 := Aside0.mk hc0
  clear hr0 hc0
  have HR1 := Aside0.mk hr1
  have HC1 := Aside0.mk hc1
  clear hr1 hc1
  have H : (if (l0.length : Int) = (l1.length : Int) then (carrackref00_Same.l0 k l0 l1 0) else (some false)) = some r := h
  clear h
  by_cases c3 : (l0.length : Int) = (l1.length : Int)
  · rw [if_pos c3] at H
    have c3b0 : ((l0.length : Int) == (l1.length : Int)) = true := beq_iff_eq.mpr c3
    have c3b1 : ((l0.length : Int) != (l1.length : Int)) = false := bne_eq_false_iff_eq.mpr c3
    have c3b2 : (l0.length == l1.length) = true := by first | simpa using c3 | (simp at c3 ⊢; omega)
    clear c3
    have H' := Aside0.mk H
    clear H
    go_enter Try.func23, Try.ntmps23
    go_wp2
    repeat (go_quiet (fail); try go_wp2)
    go_loopg [5] k (fun kq v5 w' => ∃ (x5_1 : Int), v5 = .int .i64 x5_1 ∧ Aside0 (carrackref00_Same.l0 kq l0 l1 x5_1 = some r) ∧ Aside0 (kq ≤ k) ∧ Drawn0 w w')
    case atStart => exact ⟨(0), (by first | rfl | (simp; done) | (simp [*]; done)), H', ⟨Nat.le_refl _⟩, by repeat (first | exact Drawn0.refl _ | apply Drawn0.step)⟩
    case round =>
      clear H'
      try clear c1
      try clear c2
      try clear p2
      try clear c3
      try clear c3b0
      try clear c3b1
      try clear c3b2
      obtain ⟨x5_1, rfl, HA, HK1, ⟨m1, rfl⟩⟩ := hrel
      cases gk with
      | zero => exact absurd HA.out (by simp [carrackref00_Same.l0])
      | succ k1 =>
        have H := HA.out
        clear HA
        simp only [carrackref00_Same.l0] at H
        by_cases c4 : x5_1 < (l0.length : Int)
        · rw [if_pos c4] at H
          have c4b0 : decide (x5_1 < (l0.length : Int)) = true := decide_eq_true c4
          clear c4
          by_cases c5 : 0 ≤ x5_1
          · rw [if_pos c5] at H
            have c5b0 : decide (0 ≤ x5_1) = true := decide_eq_true c5
            clear c5
            by_cases c6 : x5_1 < (l1.length : Int)
            · rw [if_pos c6] at H
              have c6b0 : decide (x5_1 < (l1.length : Int)) = true := decide_eq_true c6
              clear c6
              by_cases c7 : (rd l0 x5_1) = (rd l1 x5_1)
              · rw [if_pos c7] at H
                have c7b0 : ((rd l0 x5_1) == (rd l1 x5_1)) = true := beq_iff_eq.mpr c7
                have c7b1 : ((rd l0 x5_1) != (rd l1 x5_1)) = false := bne_eq_false_iff_eq.mpr c7
                clear c7
                have H' := Aside0.mk H
                clear H
                have p101 : 0 ≤ (x5_1 : Int) := of_decide_eq_true (by first | (with_reducible assumption) | assumption)
                have q101 : x5_1 < (l0.length : Int) := of_decide_eq_true (by first | (with_reducible assumption) | assumption)
                obtain ⟨ad101, e101, hx101_0⟩ := Kd.at_int HR0.out x5_1 p101 q101
                cases e101
                replace p101 := eq_true p101
                replace q101 := eq_true q101
                have p102 : 0 ≤ (x5_1 : Int) := of_decide_eq_true (by first | (with_reducible assumption) | assumption)
                have q102 : x5_1 < (l1.length : Int) := of_decide_eq_true (by first | (with_reducible assumption) | assumption)
                obtain ⟨ad102, e102, hx102_0⟩ := Kd.at_int HR1.out x5_1 p102 q102
                cases e102
                replace p102 := eq_true p102
                replace q102 := eq_true q102
                go_wp2
                repeat (go_quiet (fail); try go_wp2)
                go_roundg k1
                case measure => have := HK1.out; omega
                case rel => exact ⟨(wrap64 (x5_1 + 1)), (by first | rfl | (simp; done) | (simp [*]; done)), H', ⟨by have := HK1.out; omega⟩, by repeat (first | exact Drawn0.refl _ | apply Drawn0.step)⟩
              · rw [if_neg c7] at H
                have c7b0 : ((rd l0 x5_1) == (rd l1 x5_1)) = false := beq_eq_false_iff_ne.mpr c7
                have c7b1 : ((rd l0 x5_1) != (rd l1 x5_1)) = true := bne_iff_ne.mpr c7
                obtain rfl := Option.some.inj H
                have p101 : 0 ≤ (x5_1 : Int) := of_decide_eq_true (by first | (with_reducible assumption) | assumption)
                have q101 : x5_1 < (l0.length : Int) := of_decide_eq_true (by first | (with_reducible assumption) | assumption)
                obtain ⟨ad101, e101, hx101_0⟩ := Kd.at_int HR0.out x5_1 p101 q101
                cases e101
                replace p101 := eq_true p101
                replace q101 := eq_true q101
                have p102 : 0 ≤ (x5_1 : Int) := of_decide_eq_true (by first | (with_reducible assumption) | assumption)
                have q102 : x5_1 < (l1.length : Int) := of_decide_eq_true (by first | (with_reducible assumption) | assumption)
                obtain ⟨ad102, e102, hx102_0⟩ := Kd.at_int HR1.out x5_1 p102 q102
                cases e102
                replace p102 := eq_true p102
                replace q102 := eq_true q102
                go_wp2
                repeat (go_quiet (fail); try go_wp2)
                go_ret
                exact ⟨by first | rfl | (simp; done) | (simp [*]; done), by repeat (first | exact Drawn0.refl _ | apply Drawn0.step)⟩
            · rw [if_neg c6] at H
              exact absurd H (by simp)
          · rw [if_neg c5] at H
            exact absurd H (by simp)
        · rw [if_neg c4] at H
          have c4b0 : decide (x5_1 < (l0.length : Int)) = false := decide_eq_false c4
          clear c4
          obtain rfl := Option.some.inj H
          go_wp2
          repeat (go_quiet (fail); try go_wp2)
          go_ret
          exact ⟨by first | rfl | (simp; done) | (simp [*]; done), by repeat (first | exact Drawn0.refl _ | apply Drawn0.step)⟩
  · rw [if_neg c3] at H
    have c3b0 : ((l0.length : Int) == (l1.length : Int)) = false := beq_eq_false_iff_ne.mpr c3
    have c3b1 : ((l0.length : Int) != (l1.length : Int)) = true := bne_iff_ne.mpr c3
    have c3b2 : (l0.length == l1.length) = false := by first | simpa using c3 | (simp at c3 ⊢; omega)
    obtain rfl := Option.some.inj H
    go_enter Try.func23, Try.ntmps23
    go_wp2
    repeat (go_quiet (fail); try go_wp2)
    go_ret
    exact ⟨by first | rfl | (simp; done) | (simp [*]; done), by repeat (first | exact Drawn0.refl _ | apply Drawn0.step)⟩

/-! ### cmp_Or_int: function 59 -/
def cmp_Or_int.l0 : Nat → Int → List Int → Int → Int → Option (Int)
  | 0, _, _, _, _ => none
  | k + 1, x3, x6, x7, x8 => if x8 < x7 then (if 0 ≤ x8 then (if x8 < (x6.length : Int) then (if (rd x6 x8) = x3 then (cmp_Or_int.l0 k x3 x6 x7 (wrap64 (x8 + 1))) else (some (rd x6 x8))) else (none)) else (none)) else (some x3)
def cmp_Or_int.f (k : Nat) (l0 : List Int) : Option (Int) := cmp_Or_int.l0 k 0 l0 (l0.length : Int) 0
theorem cmp_Or_int.mono_l : ∀ k, (∀ y0 y1 y2 y3, LeO (cmp_Or_int.l0 k y0 y1 y2 y3) (cmp_Or_int.l0 (k + 1) y0 y1 y2 y3))
  | 0 => fun _ _ _ _ r h => by simp [cmp_Or_int.l0] at h
  | k + 1 => by
    have ih0 := cmp_Or_int.mono_l k
    · intro y0 y1 y2 y3
      unfold cmp_Or_int.l0
      repeat' first
      | (with_reducible exact ih0 _ _ _ _)
      | (with_reducible exact LeO.refl _)
      | (with_reducible exact LeO.none _)
      | (with_reducible refine LeO.ite ?_ ?_)
      | (with_reducible refine LeO.bind ?_ (fun _ => ?_))
      | exact ih0 _ _ _ _
      | exact LeO.none _
      | refine LeO.ite ?_ ?_
      | refine LeO.bind ?_ (fun _ => ?_)
theorem cmp_Or_int.mono : ∀ a0 k, LeO (cmp_Or_int.f k a0) (cmp_Or_int.f (k + 1) a0) := by
  intro a0 k
  have ih0 := cmp_Or_int.mono_l k
  unfold cmp_Or_int.f
  repeat' first
      | (with_reducible exact ih0 _ _ _ _)
      | (with_reducible exact LeO.refl _)
      | (with_reducible exact LeO.none _)
      | (with_reducible refine LeO.ite ?_ ?_)
      | (with_reducible refine LeO.bind ?_ (fun _ => ?_))
      | exact ih0 _ _ _ _
      | exact LeO.none _
      | refine LeO.ite ?_ ?_
      | refine LeO.bind ?_ (fun _ => ?_)
set_option maxHeartbeats 8000000 in
set_option maxRecDepth 100000 in
theorem cmp_Or_int.calls (k : Nat) (A0 : Option Addr) (c0 : Nat) (l0 : List Int) (r : Int) (w : World) (hr0 : Kd.C (Kd.int .i64) w A0 l0.length l0) (hc0 : l0.length ≤ c0) (h : cmp_Or_int.f k l0 = some r) :
    Calls Try.prog 59 #[.slice A0 l0.length c0] w fun e w' => e = .returned (.int .i64 r) ∧ Drawn0 w w' := by
  have HR0 := Aside0.mk hr0
  have HC0 := Aside0.mk hc0
  clear hr0 hc0
  have H : (cmp_Or_int.l0 k 0 l0 (l0.length : Int) 0) = some r := h
  clear h
  have H' := Aside0.mk H
  clear H
  go_enter Try.func59, Try.ntmps59
  go_wp2
  go_loopg [8] k (fun kq v8 w' => ∃ (x8_1 : Int), v8 = .int .i64 x8_1 ∧ Aside0 (cmp_Or_int.l0 kq 0 l0 (l0.length : Int) x8_1 = some r) ∧ Aside0 (kq ≤ k) ∧ Drawn0 w w')
  case atStart => exact ⟨(0), (by first | rfl | (simp; done) | (simp [*]; done)), H', ⟨Nat.le_refl _⟩, by repeat (first | exact Drawn0.refl _ | apply Drawn0.step)⟩
  case round =>
    clear H'
    obtain ⟨x8_1, rfl, HA, HK1, ⟨m1, rfl⟩⟩ := hrel
    cases gk with
    | zero => exact absurd HA.out (by simp [cmp_Or_int.l0])
    | succ k1 =>
      have H := HA.out
      clear HA
      simp only [cmp_Or_int.l0] at H
      by_cases c2 : x8_1 < (l0.length : Int)
      · rw [if_pos c2] at H
        have c2b0 : decide (x8_1 < (l0.length : Int)) = true := decide_eq_true c2
        clear c2
        by_cases c3 : 0 ≤ x8_1
        · rw [if_pos c3] at H
          have c3b0 : decide (0 ≤ x8_1) = true := decide_eq_true c3
          clear c3
          by_cases c4 : x8_1 < (l0.length : Int)
          · rw [if_pos c4] at H
            have c4b0 : decide (x8_1 < (l0.length : Int)) = true := decide_eq_true c4
            clear c4
            by_cases c5 : (rd l0 x8_1) = 0
            · rw [if_pos c5] at H
              have c5b0 : ((rd l0 x8_1) == 0) = true := beq_iff_eq.mpr c5
              have c5b1 : ((rd l0 x8_1) != 0) = false := bne_eq_false_iff_eq.mpr c5
              clear c5
              have H' := Aside0.mk H
              clear H
              have p103 : 0 ≤ (x8_1 : Int) := of_decide_eq_true (by first | (with_reducible assumption) | assumption)
              have q103 : x8_1 < (l0.length : Int) := of_decide_eq_true (by first | (with_reducible assumption) | assumption)
              obtain ⟨ad103, e103, hx103_0⟩ := Kd.at_int HR0.out x8_1 p103 q103
              cases e103
              replace p103 := eq_true p103
              replace q103 := eq_true q103
              go_wp2
              go_roundg k1
              case measure => have := HK1.out; omega
              case rel => exact ⟨(wrap64 (x8_1 + 1)), (by first | rfl | (simp; done) | (simp [*]; done)), H', ⟨by have := HK1.out; omega⟩, by repeat (first | exact Drawn0.refl _ | apply Drawn0.step)⟩
            · rw [if_neg c5] at H
              have c5b0 : ((rd l0 x8_1) == 0) = false := beq_eq_false_iff_ne.mpr c5
              have c5b1 : ((rd l0 x8_1) != 0) = true := bne_iff_ne.mpr c5
              obtain rfl := Option.some.inj H
              have p103 : 0 ≤ (x8_1 : Int) := of_decide_eq_true (by first | (with_reducible assumption) | assumption)
              have q103 : x8_1 < (l0.length : Int) := of_decide_eq_true (by first | (with_reducible assumption) | assumption)
              obtain ⟨ad103, e103, hx103_0⟩ := Kd.at_int HR0.out x8_1 p103 q103
              cases e103
              replace p103 := eq_true p103
              replace q103 := eq_true q103
              go_wp2
              go_ret
              exact ⟨by first | rfl | (simp; done) | (simp [*]; done), by repeat (first | exact Drawn0.refl _ | apply Drawn0.step)⟩
          · rw [if_neg c4] at H
            exact absurd H (by simp)
        · rw [if_neg c3] at H
          exact absurd H (by simp)
      · rw [if_neg c2] at H
        have c2b0 : decide (x8_1 < (l0.length : Int)) = false := decide_eq_false c2
        clear c2
        obtain rfl := Option.some.inj H
        go_wp2
        go_ret
        exact ⟨by first | rfl | (simp; done) | (simp [*]; done), by repeat (first | exact Drawn0.refl _ | apply Drawn0.step)⟩

/-! ### cmp_isNaN_int: function 66 -/
def cmp_isNaN_int.f (a0 : Int) : Option (Bool) := some (a0 != a0)
set_option maxHeartbeats 8000000 in
set_option maxRecDepth 100000 in
theorem cmp_isNaN_int.calls (a0 : Int) (r : Bool) (w : World) (h : cmp_isNaN_int.f a0 = some r) :
    Calls Try.prog 66 #[.int .i64 a0] w fun e w' => e = .returned (.bool r) ∧ Drawn0 w w' := by
  have H : (some (a0 != a0)) = some r := h
  clear h
  obtain rfl := Option.some.inj H
  go_enter Try.func66, Try.ntmps66
  go_wp2
  go_ret
  exact ⟨by first | rfl | (simp; done) | (simp [*]; done), by repeat (first | exact Drawn0.refl _ | apply Drawn0.step)⟩

/-! ### cmp_Compare_int: function 60 -/
def cmp_Compare_int.f (a0 : Int) (a1 : Int) : Option (Int) := (cmp_isNaN_int.f a0).bind fun t104 => ((cmp_isNaN_int.f a1).bind fun t105 => (if t104 = true then (if t105 = true then (some 0) else (some (-1))) else (if t105 = true then (some 1) else (if a0 < a1 then (some (-1)) else (if a0 > a1 then (some 1) else (some 0))))))
set_option maxHeartbeats 8000000 in
set_option maxRecDepth 100000 in
theorem cmp_Compare_int.calls (a0 : Int) (a1 : Int) (r : Int) (w : World) (h : cmp_Compare_int.f a0 a1 = some r) :
    Calls Try.prog 60 #[.int .i64 a0, .int .i64 a1] w fun e w' => e = .returned (.int .i64 r) ∧ Drawn0 w w' := by
  have H : ((cmp_isNaN_int.f a0).bind fun t104 => ((cmp_isNaN_int.f a1).bind fun t105 => (if t104 = true then (if t105 = true then (some 0) else (some (-1))) else (if t105 = true then (some 1) else (if a0 < a1 then (some (-1)) else (if a0 > a1 then (some 1) else (some 0))))))) = some r := h
  clear h
  replace H := Option.bind_eq_some_iff.mp H
  obtain ⟨t104, A30, H⟩ := H
  replace H : ((cmp_isNaN_int.f a1).bind fun t105 => (if t104 = true then (if t105 = true then (some 0) else (some (-1))) else (if t105 = true then (some 1) else (if a0 < a1 then (some (-1)) else (if a0 > a1 then (some 1) else (some 0)))))) = some r := H
  have A3 := Aside0.mk A30
  clear A30
  replace H := Option.bind_eq_some_iff.mp H
  obtain ⟨t105, A40, H⟩ := H
  replace H : (if t104 = true then (if t105 = true then (some 0) else (some (-1))) else (if t105 = true then (some 1) else (if a0 < a1 then (some (-1)) else (if a0 > a1 then (some 1) else (some 0))))) = some r := H
  have A4 := Aside0.mk A40
  clear A40
  by_cases c5 : t104 = true
  · subst c5
    have H1 : (if t105 = true then (some 0) else (some (-1))) = some r := by rw [if_pos rfl] at H; exact H
    clear H
    have H := H1
    clear H1
    by_cases c6 : t105 = true
    · subst c6
      have H1 : (some 0) = some r := by rw [if_pos rfl] at H; exact H
      clear H
      have H := H1
      clear H1
      obtain rfl := Option.some.inj H
      go_enter Try.func60, Try.ntmps60
      go_wp2_with (first | ((with_reducible refine gate_callee (f := 66) rfl ?_); refine goesL_ (some 8) rfl rfl Try.func66 (by kernel_rfl) rfl #[.int .i64 a0] rfl (by (try simp only [List.map_toArray, List.map_cons, List.map_nil]); first | done | rfl | (simp only [List.length_drop, List.length_take]; rfl)) ?_; (with_reducible refine (cmp_isNaN_int.calls a0 true _ A3.out).mono ?_); rintro e w' ⟨rfl, ⟨nd, rfl⟩⟩; refine ⟨_, rfl, ?_⟩) | ((with_reducible refine gate_callee (f := 66) rfl ?_); refine goesL_ (some 10) rfl rfl Try.func66 (by kernel_rfl) rfl #[.int .i64 a1] rfl (by (try simp only [List.map_toArray, List.map_cons, List.map_nil]); first | done | rfl | (simp only [List.length_drop, List.length_take]; rfl)) ?_; (with_reducible refine (cmp_isNaN_int.calls a1 true _ A4.out).mono ?_); rintro e w' ⟨rfl, ⟨nd, rfl⟩⟩; refine ⟨_, rfl, ?_⟩))
      go_ret
      exact ⟨by first | rfl | (simp; done) | (simp [*]; done), by repeat (first | exact Drawn0.refl _ | apply Drawn0.step)⟩
    · replace c6 := Bool.eq_false_iff.mpr c6
      subst c6
      have H1 : (some (-1)) = some r := by rw [if_neg (show ¬ (false = true) by decide)] at H; exact H
      clear H
      have H := H1
      clear H1
      obtain rfl := Option.some.inj H
      go_enter Try.func60, Try.ntmps60
      go_wp2_with (first | ((with_reducible refine gate_callee (f := 66) rfl ?_); refine goesL_ (some 8) rfl rfl Try.func66 (by kernel_rfl) rfl #[.int .i64 a0] rfl (by (try simp only [List.map_toArray, List.map_cons, List.map_nil]); first | done | rfl | (simp only [List.length_drop, List.length_take]; rfl)) ?_; (with_reducible refine (cmp_isNaN_int.calls a0 true _ A3.out).mono ?_); rintro e w' ⟨rfl, ⟨nd, rfl⟩⟩; refine ⟨_, rfl, ?_⟩) | ((with_reducible refine gate_callee (f := 66) rfl ?_); refine goesL_ (some 10) rfl rfl Try.func66 (by kernel_rfl) rfl #[.int .i64 a1] rfl (by (try simp only [List.map_toArray, List.map_cons, List.map_nil]); first | done | rfl | (simp only [List.length_drop, List.length_take]; rfl)) ?_; (with_reducible refine (cmp_isNaN_int.calls a1 false _ A4.out).mono ?_); rintro e w' ⟨rfl, ⟨nd, rfl⟩⟩; refine ⟨_, rfl, ?_⟩))
      go_ret
      exact ⟨by first | rfl | (simp; done) | (simp [*]; done), by repeat (first | exact Drawn0.refl _ | apply Drawn0.step)⟩
  · replace c5 := Bool.eq_false_iff.mpr c5
    subst c5
    have H1 : (if t105 = true then (some 1) else (if a0 < a1 then (some (-1)) else (if a0 > a1 then (some 1) else (some 0)))) = some r := by rw [if_neg (show ¬ (false = true) by decide)] at H; exact H
    clear H
    have H := H1
    clear H1
    by_cases c7 : t105 = true
    · subst c7
      have H1 : (some 1) = some r := by rw [if_pos rfl] at H; exact H
      clear H
      have H := H1
      clear H1
      obtain rfl := Option.some.inj H
      go_enter Try.func60, Try.ntmps60
      go_wp2_with (first | ((with_reducible refine gate_callee (f := 66) rfl ?_); refine goesL_ (some 8) rfl rfl Try.func66 (by kernel_rfl) rfl #[.int .i64 a0] rfl (by (try simp only [List.map_toArray, List.map_cons, List.map_nil]); first | done | rfl | (simp only [List.length_drop, List.length_take]; rfl)) ?_; (with_reducible refine (cmp_isNaN_int.calls a0 false _ A3.out).mono ?_); rintro e w' ⟨rfl, ⟨nd, rfl⟩⟩; refine ⟨_, rfl, ?_⟩) | ((with_reducible refine gate_callee (f := 66) rfl ?_); refine goesL_ (some 10) rfl rfl Try.func66 (by kernel_rfl) rfl #[.int .i64 a1] rfl (by (try simp only [List.map_toArray, List.map_cons, List.map_nil]); first | done | rfl | (simp only [List.length_drop, List.length_take]; rfl)) ?_; (with_reducible refine (cmp_isNaN_int.calls a1 true _ A4.out).mono ?_); rintro e w' ⟨rfl, ⟨nd, rfl⟩⟩; refine ⟨_, rfl, ?_⟩))
      go_ret
      exact ⟨by first | rfl | (simp; done) | (simp [*]; done), by repeat (first | exact Drawn0.refl _ | apply Drawn0.step)⟩
    · replace c7 := Bool.eq_false_iff.mpr c7
      subst c7
      have H1 : (if a0 < a1 then (some (-1)) else (if a0 > a1 then (some 1) else (some 0))) = some r := by rw [if_neg (show ¬ (false = true) by decide)] at H; exact H
      clear H
      have H := H1
      clear H1
      by_cases c8 : a0 < a1
      · rw [if_pos c8] at H
        have c8b0 : decide (a0 < a1) = true := decide_eq_true c8
        clear c8
        obtain rfl := Option.some.inj H
        go_enter Try.func60, Try.ntmps60
        go_wp2_with (first | ((with_reducible refine gate_callee (f := 66) rfl ?_); refine goesL_ (some 8) rfl rfl Try.func66 (by kernel_rfl) rfl #[.int .i64 a0] rfl (by (try simp only [List.map_toArray, List.map_cons, List.map_nil]); first | done | rfl | (simp only [List.length_drop, List.length_take]; rfl)) ?_; (with_reducible refine (cmp_isNaN_int.calls a0 false _ A3.out).mono ?_); rintro e w' ⟨rfl, ⟨nd, rfl⟩⟩; refine ⟨_, rfl, ?_⟩) | ((with_reducible refine gate_callee (f := 66) rfl ?_); refine goesL_ (some 10) rfl rfl Try.func66 (by kernel_rfl) rfl #[.int .i64 a1] rfl (by (try simp only [List.map_toArray, List.map_cons, List.map_nil]); first | done | rfl | (simp only [List.length_drop, List.length_take]; rfl)) ?_; (with_reducible refine (cmp_isNaN_int.calls a1 false _ A4.out).mono ?_); rintro e w' ⟨rfl, ⟨nd, rfl⟩⟩; refine ⟨_, rfl, ?_⟩))
        go_ret
        exact ⟨by first | rfl | (simp; done) | (simp [*]; done), by repeat (first | exact Drawn0.refl _ | apply Drawn0.step)⟩
      · rw [if_neg c8] at H
        have c8b0 : decide (a0 < a1) = false := decide_eq_false c8
        clear c8
        by_cases c9 : a0 > a1
        · rw [if_pos c9] at H
          have c9b0 : decide (a1 < a0) = true := decide_eq_true c9
          clear c9
          obtain rfl := Option.some.inj H
          go_enter Try.func60, Try.ntmps60
          go_wp2_with (first | ((with_reducible refine gate_callee (f := 66) rfl ?_); refine goesL_ (some 8) rfl rfl Try.func66 (by kernel_rfl) rfl #[.int .i64 a0] rfl (by (try simp only [List.map_toArray, List.map_cons, List.map_nil]); first | done | rfl | (simp only [List.length_drop, List.length_take]; rfl)) ?_; (with_reducible refine (cmp_isNaN_int.calls a0 false _ A3.out).mono ?_); rintro e w' ⟨rfl, ⟨nd, rfl⟩⟩; refine ⟨_, rfl, ?_⟩) | ((with_reducible refine gate_callee (f := 66) rfl ?_); refine goesL_ (some 10) rfl rfl Try.func66 (by kernel_rfl) rfl #[.int .i64 a1] rfl (by (try simp only [List.map_toArray, List.map_cons, List.map_nil]); first | done | rfl | (simp only [List.length_drop, List.length_take]; rfl)) ?_; (with_reducible refine (cmp_isNaN_int.calls a1 false _ A4.out).mono ?_); rintro e w' ⟨rfl, ⟨nd, rfl⟩⟩; refine ⟨_, rfl, ?_⟩))
          go_ret
          exact ⟨by first | rfl | (simp; done) | (simp [*]; done), by repeat (first | exact Drawn0.refl _ | apply Drawn0.step)⟩
        · rw [if_neg c9] at H
          have c9b0 : decide (a1 < a0) = false := decide_eq_false c9
          clear c9
          obtain rfl := Option.some.inj H
          go_enter Try.func60, Try.ntmps60
          go_wp2_with (first | ((with_reducible refine gate_callee (f := 66) rfl ?_); refine goesL_ (some 8) rfl rfl Try.func66 (by kernel_rfl) rfl #[.int .i64 a0] rfl (by (try simp only [List.map_toArray, List.map_cons, List.map_nil]); first | done | rfl | (simp only [List.length_drop, List.length_take]; rfl)) ?_; (with_reducible refine (cmp_isNaN_int.calls a0 false _ A3.out).mono ?_); rintro e w' ⟨rfl, ⟨nd, rfl⟩⟩; refine ⟨_, rfl, ?_⟩) | ((with_reducible refine gate_callee (f := 66) rfl ?_); refine goesL_ (some 10) rfl rfl Try.func66 (by kernel_rfl) rfl #[.int .i64 a1] rfl (by (try simp only [List.map_toArray, List.map_cons, List.map_nil]); first | done | rfl | (simp only [List.length_drop, List.length_take]; rfl)) ?_; (with_reducible refine (cmp_isNaN_int.calls a1 false _ A4.out).mono ?_); rintro e w' ⟨rfl, ⟨nd, rfl⟩⟩; refine ⟨_, rfl, ?_⟩))
          go_ret
          exact ⟨by first | rfl | (simp; done) | (simp [*]; done), by repeat (first | exact Drawn0.refl _ | apply Drawn0.step)⟩

/-! ### cmp_isNaN_uint8: function 67 -/
def cmp_isNaN_uint8.f (a0 : Int) : Option (Bool) := some (a0 != a0)
set_option maxHeartbeats 8000000 in
set_option maxRecDepth 100000 in
theorem cmp_isNaN_uint8.calls (a0 : Int) (r : Bool) (w : World) (h : cmp_isNaN_uint8.f a0 = some r) :
    Calls Try.prog 67 #[.int .u8 a0] w fun e w' => e = .returned (.bool r) ∧ Drawn0 w w' := by
  have H : (some (a0 != a0)) = some r := h
  clear h
  obtain rfl := Option.some.inj H
  go_enter Try.func67, Try.ntmps67
  go_wp2
  go_ret
  exact ⟨by first | rfl | (simp; done) | (simp [*]; done), by repeat (first | exact Drawn0.refl _ | apply Drawn0.step)⟩

/-! ### cmp_Compare_uint8: function 61 -/
def cmp_Compare_uint8.f (a0 : Int) (a1 : Int) : Option (Int) := (cmp_isNaN_uint8.f a0).bind fun t106 => ((cmp_isNaN_uint8.f a1).bind fun t107 => (if t106 = true then (if t107 = true then (some 0) else (some (-1))) else (if t107 = true then (some 1) else (if a0 < a1 then (some (-1)) else (if a0 > a1 then (some 1) else (some 0))))))
set_option maxHeartbeats 8000000 in
set_option maxRecDepth 100000 in
theorem cmp_Compare_uint8.calls (a0 : Int) (a1 : Int) (r : Int) (w : World) (h : cmp_Compare_uint8.f a0 a1 = some r) :
    Calls Try.prog 61 #[.int .u8 a0, .int .u8 a1] w fun e w' => e = .returned (.int .i64 r) ∧ Drawn0 w w' := by
  have H : ((cmp_isNaN_uint8.f a0).bind fun t106 => ((cmp_isNaN_uint8.f a1).bind fun t107 => (if t106 = true then (if t107 = true then (some 0) else (some (-1))) else (if t107 = true then (some 1) else (if a0 < a1 then (some (-1)) else (if a0 > a1 then (some 1) else (some 0))))))) = some r := h
  clear h
  replace H := Option.bind_eq_some_iff.mp H
  obtain ⟨t106, A30, H⟩ := H
  replace H : ((cmp_isNaN_uint8.f a1).bind fun t107 => (if t106 = true then (if t107 = true then (some 0) else (some (-1))) else (if t107 = true then (some 1) else (if a0 < a1 then (some (-1)) else (if a0 > a1 then (some 1) else (some 0)))))) = some r := H
  have A3 := Aside0.mk A30
  clear A30
  replace H := Option.bind_eq_some_iff.mp H
  obtain ⟨t107, A40, H⟩ := H
  replace H : (if t106 = true then (if t107 = true then (some 0) else (some (-1))) else (if t107 = true then (some 1) else (if a0 < a1 then (some (-1)) else (if a0 > a1 then (some 1) else (some 0))))) = some r := H
  have A4 := Aside0.mk A40
  clear A40
  by_cases c5 : t106 = true
  · subst c5
    have H1 : (if t107 = true then (some 0) else (some (-1))) = some r := by rw [if_pos rfl] at H; exact H
    clear H
    have H := H1
    clear H1
    by_cases c6 : t107 = true
    · subst c6
      have H1 : (some 0) = some r := by rw [if_pos rfl] at H; exact H
      clear H
      have H := H1
      clear H1
      obtain rfl := Option.some.inj H
      go_enter Try.func61, Try.ntmps61
      go_wp2_with (first | ((with_reducible refine gate_callee (f := 67) rfl ?_); refine goesL_ (some 8) rfl rfl Try.func67 (by kernel_rfl) rfl #[.int .u8 a0] rfl (by (try simp only [List.map_toArray, List.map_cons, List.map_nil]); first | done | rfl | (simp only [List.length_drop, List.length_take]; rfl)) ?_; (with_reducible refine (cmp_isNaN_uint8.calls a0 true _ A3.out).mono ?_); rintro e w' ⟨rfl, ⟨nd, rfl⟩⟩; refine ⟨_, rfl, ?_⟩) | ((with_reducible refine gate_callee (f := 67) rfl ?_); refine goesL_ (some 10) rfl rfl Try.func67 (by kernel_rfl) rfl #[.int .u8 a1] rfl (by (try simp only [List.map_toArray, List.map_cons, List.map_nil]); first | done | rfl | (simp only [List.length_drop, List.length_take]; rfl)) ?_; (with_reducible refine (cmp_isNaN_uint8.calls a1 true _ A4.out).mono ?_); rintro e w' ⟨rfl, ⟨nd, rfl⟩⟩; refine ⟨_, rfl, ?_⟩))
      go_ret
      exact ⟨by first | rfl | (simp; done) | (simp [*]; done), by repeat (first | exact Drawn0.refl _ | apply Drawn0.step)⟩
    · replace c6 := Bool.eq_false_iff.mpr c6
      subst c6
      have H1 : (some (-1)) = some r := by rw [if_neg (show ¬ (false = true) by decide)] at H; exact H
      clear H
      have H := H1
      clear H1
      obtain rfl := Option.some.inj H
      go_enter Try.func61, Try.ntmps61
      go_wp2_with (first | ((with_reducible refine gate_callee (f := 67) rfl ?_); refine goesL_ (some 8) rfl rfl Try.func67 (by kernel_rfl) rfl #[.int .u8 a0] rfl (by (try simp only [List.map_toArray, List.map_cons, List.map_nil]); first | done | rfl | (simp only [List.length_drop, List.length_take]; rfl)) ?_; (with_reducible refine (cmp_isNaN_uint8.calls a0 true _ A3.out).mono ?_); rintro e w' ⟨rfl, ⟨nd, rfl⟩⟩; refine ⟨_, rfl, ?_⟩) | ((with_reducible refine gate_callee (f := 67) rfl ?_); refine goesL_ (some 10) rfl rfl Try.func67 (by kernel_rfl) rfl #[.int .u8 a1] rfl (by (try simp only [List.map_toArray, List.map_cons, List.map_nil]); first | done | rfl | (simp only [List.length_drop, List.length_take]; rfl)) ?_; (with_reducible refine (cmp_isNaN_uint8.calls a1 false _ A4.out).mono ?_); rintro e w' ⟨rfl, ⟨nd, rfl⟩⟩; refine ⟨_, rfl, ?_⟩))
      go_ret
      exact ⟨by first | rfl | (simp; done) | (simp [*]; done), by repeat (first | exact Drawn0.refl _ | apply Drawn0.step)⟩
  · replace c5 := Bool.eq_false_iff.mpr c5
    subst c5
    have H1 : (if t107 = true then (some 1) else (if a0 < a1 then (some (-1)) else (if a0 > a1 then (some 1) else (some 0)))) = some r := by rw [if_neg (show ¬ (false = true) by decide)] at H; exact H
    clear H
    have H := H1
    clear H1
    by_cases c7 : t107 = true
    · subst c7
      have H1 : (some 1) = some r := by rw [if_pos rfl] at H; exact H
      clear H
      have H := H1
      clear H1
      obtain rfl := Option.some.inj H
      go_enter Try.func61, Try.ntmps61
      go_wp2_with (first | ((with_reducible refine gate_callee (f := 67) rfl ?_); refine goesL_ (some 8) rfl rfl Try.func67 (by kernel_rfl) rfl #[.int .u8 a0] rfl (by (try simp only [List.map_toArray, List.map_cons, List.map_nil]); first | done | rfl | (simp only [List.length_drop, List.length_take]; rfl)) ?_; (with_reducible refine (cmp_isNaN_uint8.calls a0 false _ A3.out).mono ?_); rintro e w' ⟨rfl, ⟨nd, rfl⟩⟩; refine ⟨_, rfl, ?_⟩) | ((with_reducible refine gate_callee (f := 67) rfl ?_); refine goesL_ (some 10) rfl rfl Try.func67 (by kernel_rfl) rfl #[.int .u8 a1] rfl (by (try simp only [List.map_toArray, List.map_cons, List.map_nil]); first | done | rfl | (simp only [List.length_drop, List.length_take]; rfl)) ?_; (with_reducible refine (cmp_isNaN_uint8.calls a1 true _ A4.out).mono ?_); rintro e w' ⟨rfl, ⟨nd, rfl⟩⟩; refine ⟨_, rfl, ?_⟩))
      go_ret
      exact ⟨by first | rfl | (simp; done) | (simp [*]; done), by repeat (first | exact Drawn0.refl _ | apply Drawn0.step)⟩
    · replace c7 := Bool.eq_false_iff.mpr c7
      subst c7
      have H1 : (if a0 < a1 then (some (-1)) else (if a0 > a1 then (some 1) else (some 0))) = some r := by rw [if_neg (show ¬ (false = true) by decide)] at H; exact H
      clear H
      have H := H1
      clear H1
      by_cases c8 : a0 < a1
      · rw [if_pos c8] at H
        have c8b0 : decide (a0 < a1) = true := decide_eq_true c8
        clear c8
        obtain rfl := Option.some.inj H
        go_enter Try.func61, Try.ntmps61
        go_wp2_with (first | ((with_reducible refine gate_callee (f := 67) rfl ?_); refine goesL_ (some 8) rfl rfl Try.func67 (by kernel_rfl) rfl #[.int .u8 a0] rfl (by (try simp only [List.map_toArray, List.map_cons, List.map_nil]); first | done | rfl | (simp only [List.length_drop, List.length_take]; rfl)) ?_; (with_reducible refine (cmp_isNaN_uint8.calls a0 false _ A3.out).mono ?_); rintro e w' ⟨rfl, ⟨nd, rfl⟩⟩; refine ⟨_, rfl, ?_⟩) | ((with_reducible refine gate_callee (f := 67) rfl ?_); refine goesL_ (some 10) rfl rfl Try.func67 (by kernel_rfl) rfl #[.int .u8 a1] rfl (by (try simp only [List.map_toArray, List.map_cons, List.map_nil]); first | done | rfl | (simp only [List.length_drop, List.length_take]; rfl)) ?_; (with_reducible refine (cmp_isNaN_uint8.calls a1 false _ A4.out).mono ?_); rintro e w' ⟨rfl, ⟨nd, rfl⟩⟩; refine ⟨_, rfl, ?_⟩))
        go_ret
        exact ⟨by first | rfl | (simp; done) | (simp [*]; done), by repeat (first | exact Drawn0.refl _ | apply Drawn0.step)⟩
      · rw [if_neg c8] at H
        have c8b0 : decide (a0 < a1) = false := decide_eq_false c8
        clear c8
        by_cases c9 : a0 > a1
        · rw [if_pos c9] at H
          have c9b0 : decide (a1 < a0) = true := decide_eq_true c9
          clear c9
          obtain rfl := Option.some.inj H
          go_enter Try.func61, Try.ntmps61
          go_wp2_with (first | ((with_reducible refine gate_callee (f := 67) rfl ?_); refine goesL_ (some 8) rfl rfl Try.func67 (by kernel_rfl) rfl #[.int .u8 a0] rfl (by (try simp only [List.map_toArray, List.map_cons, List.map_nil]); first | done | rfl | (simp only [List.length_drop, List.length_take]; rfl)) ?_; (with_reducible refine (cmp_isNaN_uint8.calls a0 false _ A3.out).mono ?_); rintro e w' ⟨rfl, ⟨nd, rfl⟩⟩; refine ⟨_, rfl, ?_⟩) | ((with_reducible refine gate_callee (f := 67) rfl ?_); refine goesL_ (some 10) rfl rfl Try.func67 (by kernel_rfl) rfl #[.int .u8 a1] rfl (by (try simp only [List.map_toArray, List.map_cons, List.map_nil]); first | done | rfl | (simp only [List.length_drop, List.length_take]; rfl)) ?_; (with_reducible refine (cmp_isNaN_uint8.calls a1 false _ A4.out).mono ?_); rintro e w' ⟨rfl, ⟨nd, rfl⟩⟩; refine ⟨_, rfl, ?_⟩))
          go_ret
          exact ⟨by first | rfl | (simp; done) | (simp [*]; done), by repeat (first | exact Drawn0.refl _ | apply Drawn0.step)⟩
        · rw [if_neg c9] at H
          have c9b0 : decide (a1 < a0) = false := decide_eq_false c9
          clear c9
          obtain rfl := Option.some.inj H
          go_enter Try.func61, Try.ntmps61
          go_wp2_with (first | ((with_reducible refine gate_callee (f := 67) rfl ?_); refine goesL_ (some 8) rfl rfl Try.func67 (by kernel_rfl) rfl #[.int .u8 a0] rfl (by (try simp only [List.map_toArray, List.map_cons, List.map_nil]); first | done | rfl | (simp only [List.length_drop, List.length_take]; rfl)) ?_; (with_reducible refine (cmp_isNaN_uint8.calls a0 false _ A3.out).mono ?_); rintro e w' ⟨rfl, ⟨nd, rfl⟩⟩; refine ⟨_, rfl, ?_⟩) | ((with_reducible refine gate_callee (f := 67) rfl ?_); refine goesL_ (some 10) rfl rfl Try.func67 (by kernel_rfl) rfl #[.int .u8 a1] rfl (by (try simp only [List.map_toArray, List.map_cons, List.map_nil]); first | done | rfl | (simp only [List.length_drop, List.length_take]; rfl)) ?_; (with_reducible refine (cmp_isNaN_uint8.calls a1 false _ A4.out).mono ?_); rintro e w' ⟨rfl, ⟨nd, rfl⟩⟩; refine ⟨_, rfl, ?_⟩))
          go_ret
          exact ⟨by first | rfl | (simp; done) | (simp [*]; done), by repeat (first | exact Drawn0.refl _ | apply Drawn0.step)⟩

/-! ### cmp_isNaN_string: function 68 -/
def cmp_isNaN_string.f (a0 : ByteArray) : Option (Bool) := some (a0.toList != a0.toList)
set_option maxHeartbeats 8000000 in
set_option maxRecDepth 100000 in
theorem cmp_isNaN_string.calls (a0 : ByteArray) (r : Bool) (w : World) (h : cmp_isNaN_string.f a0 = some r) :
    Calls Try.prog 68 #[.string a0] w fun e w' => e = .returned (.bool r) ∧ Drawn0 w w' := by
  have H : (some (a0.toList != a0.toList)) = some r := h
  clear h
  obtain rfl := Option.some.inj H
  go_enter Try.func68, Try.ntmps68
  go_wp2
  go_ret
  exact ⟨by first | rfl | (simp; done) | (simp [*]; done), by repeat (first | exact Drawn0.refl _ | apply Drawn0.step)⟩

end Go.Proofs.Ytbhmncenbpdcjaa.P
end
section
/- Printed by a program of this workplace (wip/print/gprint.py, over the kit's print.py): functions of the program as Lean functions, and that the Go text comes to their answers. -/
namespace Go.Proofs.Ytbhmncenbpdcjaa.P
open Go.RowKit Go.Proofs.YtbhmncenbpdcjaaW.PrintWords Go.Proofs.YtbhmncenbpdcjaaW.PrintLast Go.Proofs.YtbhmncenbpdcjaaW.PrintMore
attribute [local go_sem] max2_int min2_int max_two min_two max_three min_three max_four min_four   -- for this text's walks alone
set_option linter.unusedVariables false
set_option linter.unusedSimpArgs false

attribute [local go_sem high] eqA30
/-! ### carrackref00_Facts: function 19 -/
def carrackref00_Facts.l0 : Nat → List (S47) → List (S47) → Int → Option (Bool)
  | 0, _, _, _ => none
  | k + 1, x0, x1, x5 => if x5 < (x0.length : Int) then (if 0 ≤ x5 then (if x5 < (x1.length : Int) then (if (!(((rd_T47 x0 x5).f0.f0) == ((rd_T47 x1 x5).f0.f0)) || (!(((rd_T47 x0 x5).f0.f1) == ((rd_T47 x1 x5).f0.f1)) || (!((((rd_T47 x0 x5).f0.f2).toList) == (((rd_T47 x1 x5).f0.f2).toList)) || (!(((rd_T47 x0 x5).f0.f3) == ((rd_T47 x1 x5).f0.f3)))))) = true then (some false) else ((carrackref00_Same.f k ((rd_T47 x0 x5).f1) ((rd_T47 x1 x5).f1)).bind fun t148 => (if t148 = true then (carrackref00_Facts.l0 k x0 x1 (wrap64 (x5 + 1))) else (some false)))) else (none)) else (none)) else (some true)
def carrackref00_Facts.f (k : Nat) (l0 : List (S47)) (l1 : List (S47)) : Option (Bool) := if (l0.length : Int) = (l1.length : Int) then (carrackref00_Facts.l0 k l0 l1 0) else (some false)
theorem carrackref00_Facts.mono_l : ∀ k, (∀ y0 y1 y2, LeO (carrackref00_Facts.l0 k y0 y1 y2) (carrackref00_Facts.l0 (k + 1) y0 y1 y2))
  | 0 => fun _ _ _ r h => by simp [carrackref00_Facts.l0] at h
  | k + 1 => by
    have ih0 := carrackref00_Facts.mono_l k
    · intro y0 y1 y2
      unfold carrackref00_Facts.l0
      repeat' first
      | (with_reducible exact ih0 _ _ _)
      | (with_reducible exact carrackref00_Same.mono _ _ _)
      | (with_reducible exact LeO.refl _)
      | (with_reducible exact LeO.none _)
      | (with_reducible refine LeO.ite ?_ ?_)
      | (with_reducible refine LeO.bind ?_ (fun _ => ?_))
      | exact ih0 _ _ _
      | exact carrackref00_Same.mono _ _ _
      | exact LeO.none _
      | refine LeO.ite ?_ ?_
      | refine LeO.bind ?_ (fun _ => ?_)
theorem carrackref00_Facts.mono : ∀ a0 a1 k, LeO (carrackref00_Facts.f k a0 a1) (carrackref00_Facts.f (k + 1) a0 a1) := by
  intro a0 a1 k
  have ih0 := carrackref00_Facts.mono_l k
  unfold carrackref00_Facts.f
  repeat' first
      | (with_reducible exact ih0 _ _ _)
      | (with_reducible exact carrackref00_Same.mono _ _ _)
      | (with_reducible exact LeO.refl _)
      | (with_reducible exact LeO.none _)
      | (with_reducible refine LeO.ite ?_ ?_)
      | (with_reducible refine LeO.bind ?_ (fun _ => ?_))
      | exact ih0 _ _ _
      | exact carrackref00_Same.mono _ _ _
      | exact LeO.none _
      | refine LeO.ite ?_ ?_
      | refine LeO.bind ?_ (fun _ => ?_)
set_option maxHeartbeats 8000000 in
set_option maxRecDepth 100000 in
theorem carrackref00_Facts.calls (k : Nat) (A0 : Option Addr) (c0 : Nat) (l0 : List (S47)) (A1 : Option Addr) (c1 : Nat) (l1 : List (S47)) (r : Bool) (w : World) (hr0 : Kd.C k47 w A0 l0.length l0) (hc0 : l0.length ≤ c0) (hr1 : Kd.C k47 w A1 l1.length l1) (hc1 : l1.length ≤ c1) (h : carrackref00_Facts.f k l0 l1 = some r) :
    Calls Try.prog 19 #[.slice A0 l0.length c0, .slice A1 l1.length c1] w fun e w' => e = .returned (.bool r) ∧ Drawn0 w w' := by
  have hu30 := Try.underlying30
  have HR0 := Aside0.mk hr0
  have HC0 := Aside0.mk hc0
  clear hr0 hc0
  have HR1 := Aside0.mk hr1
  have HC1 := Aside0.mk hc1
  clear hr1 hc1
  have H : (if (l0.length : Int) = (l1.length : Int) then (carrackref00_Facts.l0 k l0 l1 0) else (some false)) = some r := h
  clear h
  by_cases c3 : (l0.length : Int) = (l1.length : Int)
  · rw [if_pos c3] at H
    have c3b0 : ((l0.length : Int) == (l1.length : Int)) = true := beq_iff_eq.mpr c3
    have c3b1 : ((l0.length : Int) != (l1.length : Int)) = false := bne_eq_false_iff_eq.mpr c3
    have c3b2 : (l0.length == l1.length) = true := by first | simpa using c3 | (simp at c3 ⊢; omega)
    clear c3
    have H' := Aside0.mk H
    clear H
    go_enter Try.func19, Try.ntmps19
    go_wp2
    repeat (go_quiet (fail); try go_wp2)
    go_loopg [5] k (fun kq v5 w' => ∃ (x5_1 : Int), v5 = .int .i64 x5_1 ∧ Aside0 (carrackref00_Facts.l0 kq l0 l1 x5_1 = some r) ∧ Aside0 (kq ≤ k) ∧ Drawn0 w w')
    case atStart => exact ⟨(0), (by first | rfl | (simp; done) | (simp [*]; done)), H', ⟨Nat.le_refl _⟩, by repeat (first | exact Drawn0.refl _ | apply Drawn0.step)⟩
    case round =>
      clear H'
      try clear c1
      try clear p2
      try clear c3
      try clear c3b0
      try clear c3b1
      try clear c3b2
      obtain ⟨x5_1, rfl, HA, HK1, ⟨m1, rfl⟩⟩ := hrel
      cases gk with
      | zero => exact absurd HA.out (by simp [carrackref00_Facts.l0])
      | succ k1 =>
        have H := HA.out
        clear HA
        simp only [carrackref00_Facts.l0] at H
        by_cases c4 : x5_1 < (l0.length : Int)
        · rw [if_pos c4] at H
          have c4b0 : decide (x5_1 < (l0.length : Int)) = true := decide_eq_true c4
          clear c4
          by_cases c5 : 0 ≤ x5_1
          · rw [if_pos c5] at H
            have c5b0 : decide (0 ≤ x5_1) = true := decide_eq_true c5
            clear c5
            by_cases c6 : x5_1 < (l1.length : Int)
            · rw [if_pos c6] at H
              have c6b0 : decide (x5_1 < (l1.length : Int)) = true := decide_eq_true c6
              clear c6
              by_cases c7 : (!(((rd_T47 l0 x5_1).f0.f0) == ((rd_T47 l1 x5_1).f0.f0)) || (!(((rd_T47 l0 x5_1).f0.f1) == ((rd_T47 l1 x5_1).f0.f1)) || (!((((rd_T47 l0 x5_1).f0.f2).toList) == (((rd_T47 l1 x5_1).f0.f2).toList)) || (!(((rd_T47 l0 x5_1).f0.f3) == ((rd_T47 l1 x5_1).f0.f3)))))) = true
              · rw [if_pos c7] at H
                have c7b0 : (!(((rd_T47 l0 x5_1).f0.f0) == ((rd_T47 l1 x5_1).f0.f0)) || (!(((rd_T47 l0 x5_1).f0.f1) == ((rd_T47 l1 x5_1).f0.f1)) || (!((((rd_T47 l0 x5_1).f0.f2).toList) == (((rd_T47 l1 x5_1).f0.f2).toList)) || (!(((rd_T47 l0 x5_1).f0.f3) == ((rd_T47 l1 x5_1).f0.f3)))))) = true := c7
                clear c7
                obtain rfl := Option.some.inj H
                have p144 : 0 ≤ (x5_1 : Int) := of_decide_eq_true (by first | (with_reducible assumption) | assumption)
                have q144 : x5_1 < (l0.length : Int) := of_decide_eq_true (by first | (with_reducible assumption) | assumption)
                obtain ⟨ad144, A144_4, c144_4, e144, hx144_0, hx144_1, hx144_2, hx144_3, hx144_4, hl144_4, hi144_4⟩ := at_T47 HR0.out x5_1 p144 q144
                cases e144
                have HR144_4 := Aside0.mk hi144_4
                have HC144_4 := Aside0.mk hl144_4
                clear hi144_4 hl144_4
                replace p144 := eq_true p144
                replace q144 := eq_true q144
                have p145 : 0 ≤ (x5_1 : Int) := of_decide_eq_true (by first | (with_reducible assumption) | assumption)
                have q145 : x5_1 < (l1.length : Int) := of_decide_eq_true (by first | (with_reducible assumption) | assumption)
                obtain ⟨ad145, A145_4, c145_4, e145, hx145_0, hx145_1, hx145_2, hx145_3, hx145_4, hl145_4, hi145_4⟩ := at_T47 HR1.out x5_1 p145 q145
                cases e145
                have HR145_4 := Aside0.mk hi145_4
                have HC145_4 := Aside0.mk hl145_4
                clear hi145_4 hl145_4
                replace p145 := eq_true p145
                replace q145 := eq_true q145
                go_wp2
                repeat (go_quiet (fail); try go_wp2)
                go_ret
                exact ⟨by first | rfl | (simp; done) | (simp [*]; done), by repeat (first | exact Drawn0.refl _ | apply Drawn0.step)⟩
              · rw [if_neg c7] at H
                have c7b0 : (!(((rd_T47 l0 x5_1).f0.f0) == ((rd_T47 l1 x5_1).f0.f0)) || (!(((rd_T47 l0 x5_1).f0.f1) == ((rd_T47 l1 x5_1).f0.f1)) || (!((((rd_T47 l0 x5_1).f0.f2).toList) == (((rd_T47 l1 x5_1).f0.f2).toList)) || (!(((rd_T47 l0 x5_1).f0.f3) == ((rd_T47 l1 x5_1).f0.f3)))))) = false := by simpa using c7
                clear c7
                replace H := Option.bind_eq_some_iff.mp H
                obtain ⟨t148, A80, H⟩ := H
                replace H : (if t148 = true then (carrackref00_Facts.l0 k1 l0 l1 (wrap64 (x5_1 + 1))) else (some false)) = some r := H
                have A8 := Aside0.mk A80
                clear A80
                by_cases c9 : t148 = true
                · subst c9
                  have H1 : (carrackref00_Facts.l0 k1 l0 l1 (wrap64 (x5_1 + 1))) = some r := by rw [if_pos rfl] at H; exact H
                  clear H
                  have H := H1
                  clear H1
                  have H' := Aside0.mk H
                  clear H
                  have p144 : 0 ≤ (x5_1 : Int) := of_decide_eq_true (by first | (with_reducible assumption) | assumption)
                  have q144 : x5_1 < (l0.length : Int) := of_decide_eq_true (by first | (with_reducible assumption) | assumption)
                  obtain ⟨ad144, A144_4, c144_4, e144, hx144_0, hx144_1, hx144_2, hx144_3, hx144_4, hl144_4, hi144_4⟩ := at_T47 HR0.out x5_1 p144 q144
                  cases e144
                  have HR144_4 := Aside0.mk hi144_4
                  have HC144_4 := Aside0.mk hl144_4
                  clear hi144_4 hl144_4
                  replace p144 := eq_true p144
                  replace q144 := eq_true q144
                  have p145 : 0 ≤ (x5_1 : Int) := of_decide_eq_true (by first | (with_reducible assumption) | assumption)
                  have q145 : x5_1 < (l1.length : Int) := of_decide_eq_true (by first | (with_reducible assumption) | assumption)
                  obtain ⟨ad145, A145_4, c145_4, e145, hx145_0, hx145_1, hx145_2, hx145_3, hx145_4, hl145_4, hi145_4⟩ := at_T47 HR1.out x5_1 p145 q145
                  cases e145
                  have HR145_4 := Aside0.mk hi145_4
                  have HC145_4 := Aside0.mk hl145_4
                  clear hi145_4 hl145_4
                  replace p145 := eq_true p145
                  replace q145 := eq_true q145
                  have p146 : 0 ≤ (x5_1 : Int) := of_decide_eq_true (by first | (with_reducible assumption) | assumption)
                  have q146 : x5_1 < (l0.length : Int) := of_decide_eq_true (by first | (with_reducible assumption) | assumption)
                  obtain ⟨ad146, A146_4, c146_4, e146, hx146_0, hx146_1, hx146_2, hx146_3, hx146_4, hl146_4, hi146_4⟩ := at_T47 HR0.out x5_1 p146 q146
                  obtain rfl : ad144 = ad146 := (by injection e146)
                  have HR146_4 := Aside0.mk hi146_4
                  have HC146_4 := Aside0.mk hl146_4
                  clear hi146_4 hl146_4
                  replace p146 := eq_true p146
                  replace q146 := eq_true q146
                  have ea_ := Option.some.inj (hx144_4.symm.trans hx146_4)
                  injection ea_ with ea_ en_ ec_
                  subst ea_
                  subst ec_
                  clear en_
                  have p147 : 0 ≤ (x5_1 : Int) := of_decide_eq_true (by first | (with_reducible assumption) | assumption)
                  have q147 : x5_1 < (l1.length : Int) := of_decide_eq_true (by first | (with_reducible assumption) | assumption)
                  obtain ⟨ad147, A147_4, c147_4, e147, hx147_0, hx147_1, hx147_2, hx147_3, hx147_4, hl147_4, hi147_4⟩ := at_T47 HR1.out x5_1 p147 q147
                  obtain rfl : ad145 = ad147 := (by injection e147)
                  have HR147_4 := Aside0.mk hi147_4
                  have HC147_4 := Aside0.mk hl147_4
                  clear hi147_4 hl147_4
                  replace p147 := eq_true p147
                  replace q147 := eq_true q147
                  have ea_ := Option.some.inj (hx145_4.symm.trans hx147_4)
                  injection ea_ with ea_ en_ ec_
                  subst ea_
                  subst ec_
                  clear en_
                  go_wp2_with (first | (go_at_call 23; (with_reducible refine (carrackref00_Same.calls k1 _ _ ((rd_T47 l0 x5_1).f1) _ _ ((rd_T47 l1 x5_1).f1) true _ ?side1 ?side2 ?side3 ?side4 A8.out).mono ?_); (case side1 => repeat (first | exact HR146_4.out | (with_reducible refine Kd.C_alloc ?_ _) | (with_reducible refine Kd.C_drewN ?_ _) | (with_reducible refine Kd.C_drew ?_))); (case side2 => exact HC146_4.out); (case side3 => repeat (first | exact HR147_4.out | (with_reducible refine Kd.C_alloc ?_ _) | (with_reducible refine Kd.C_drewN ?_ _) | (with_reducible refine Kd.C_drew ?_))); (case side4 => exact HC147_4.out); rintro e w' ⟨rfl, ⟨nd, rfl⟩⟩; (try first | exact ⟨rfl, _, World.drewN_drewN _ _ _⟩ | exact ⟨rfl, _, Eq.trans (World.drewN_drewN _ _ _) (congrArg (World.drewN _) (Nat.add_assoc _ _ _))⟩)))
                  repeat (go_quiet (first | (go_at_call 23; (with_reducible refine (carrackref00_Same.calls k1 _ _ ((rd_T47 l0 x5_1).f1) _ _ ((rd_T47 l1 x5_1).f1) true _ ?side1 ?side2 ?side3 ?side4 A8.out).mono ?_); (case side1 => repeat (first | exact HR146_4.out | (with_reducible refine Kd.C_alloc ?_ _) | (with_reducible refine Kd.C_drewN ?_ _) | (with_reducible refine Kd.C_drew ?_))); (case side2 => exact HC146_4.out); (case side3 => repeat (first | exact HR147_4.out | (with_reducible refine Kd.C_alloc ?_ _) | (with_reducible refine Kd.C_drewN ?_ _) | (with_reducible refine Kd.C_drew ?_))); (case side4 => exact HC147_4.out); rintro e w' ⟨rfl, ⟨nd, rfl⟩⟩; (try first | exact ⟨rfl, _, World.drewN_drewN _ _ _⟩ | exact ⟨rfl, _, Eq.trans (World.drewN_drewN _ _ _) (congrArg (World.drewN _) (Nat.add_assoc _ _ _))⟩))); try go_wp2_with (first | (go_at_call 23; (with_reducible refine (carrackref00_Same.calls k1 _ _ ((rd_T47 l0 x5_1).f1) _ _ ((rd_T47 l1 x5_1).f1) true _ ?side1 ?side2 ?side3 ?side4 A8.out).mono ?_); (case side1 => repeat (first | exact HR146_4.out | (with_reducible refine Kd.C_alloc ?_ _) | (with_reducible refine Kd.C_drewN ?_ _) | (with_reducible refine Kd.C_drew ?_))); (case side2 => exact HC146_4.out); (case side3 => repeat (first | exact HR147_4.out | (with_reducible refine Kd.C_alloc ?_ _) | (with_reducible refine Kd.C_drewN ?_ _) | (with_reducible refine Kd.C_drew ?_))); (case side4 => exact HC147_4.out); rintro e w' ⟨rfl, ⟨nd, rfl⟩⟩; (try first | exact ⟨rfl, _, World.drewN_drewN _ _ _⟩ | exact ⟨rfl, _, Eq.trans (World.drewN_drewN _ _ _) (congrArg (World.drewN _) (Nat.add_assoc _ _ _))⟩))))
                  go_roundg k1
                  case measure => have := HK1.out; omega
                  case rel => exact ⟨(wrap64 (x5_1 + 1)), (by first | rfl | (simp; done) | (simp [*]; done)), H', ⟨by have := HK1.out; omega⟩, by repeat (first | exact Drawn0.refl _ | apply Drawn0.step)⟩
                · replace c9 := Bool.eq_false_iff.mpr c9
                  subst c9
                  have H1 : (some false) = some r := by rw [if_neg (show ¬ (false = true) by decide)] at H; exact H
                  clear H
                  have H := H1
                  clear H1
                  obtain rfl := Option.some.inj H
                  have p144 : 0 ≤ (x5_1 : Int) := of_decide_eq_true (by first | (with_reducible assumption) | assumption)
                  have q144 : x5_1 < (l0.length : Int) := of_decide_eq_true (by first | (with_reducible assumption) | assumption)
                  obtain ⟨ad144, A144_4, c144_4, e144, hx144_0, hx144_1, hx144_2, hx144_3, hx144_4, hl144_4, hi144_4⟩ := at_T47 HR0.out x5_1 p144 q144
                  cases e144
                  have HR144_4 := Aside0.mk hi144_4
                  have HC144_4 := Aside0.mk hl144_4
                  clear hi144_4 hl144_4
                  replace p144 := eq_true p144
                  replace q144 := eq_true q144
                  have p145 : 0 ≤ (x5_1 : Int) := of_decide_eq_true (by first | (with_reducible assumption) | assumption)
                  have q145 : x5_1 < (l1.length : Int) := of_decide_eq_true (by first | (with_reducible assumption) | assumption)
                  obtain ⟨ad145, A145_4, c145_4, e145, hx145_0, hx145_1, hx145_2, hx145_3, hx145_4, hl145_4, hi145_4⟩ := at_T47 HR1.out x5_1 p145 q145
                  cases e145
                  have HR145_4 := Aside0.mk hi145_4
                  have HC145_4 := Aside0.mk hl145_4
                  clear hi145_4 hl145_4
                  replace p145 := eq_true p145
                  replace q145 := eq_true q145
                  have p146 : 0 ≤ (x5_1 : Int) := of_decide_eq_true (by first | (with_reducible assumption) | assumption)
                  have q146 : x5_1 < (l0.length : Int) := of_decide_eq_true (by first | (with_reducible assumption) | assumption)
                  obtain ⟨ad146, A146_4, c146_4, e146, hx146_0, hx146_1, hx146_2, hx146_3, hx146_4, hl146_4, hi146_4⟩ := at_T47 HR0.out x5_1 p146 q146
                  obtain rfl : ad144 = ad146 := (by injection e146)
                  have HR146_4 := Aside0.mk hi146_4
                  have HC146_4 := Aside0.mk hl146_4
                  clear hi146_4 hl146_4
                  replace p146 := eq_true p146
                  replace q146 := eq_true q146
                  have ea_ := Option.some.inj (hx144_4.symm.trans hx146_4)
                  injection ea_ with ea_ en_ ec_
                  subst ea_
                  subst ec_
                  clear en_
                  have p147 : 0 ≤ (x5_1 : Int) := of_decide_eq_true (by first | (with_reducible assumption) | assumption)
                  have q147 : x5_1 < (l1.length : Int) := of_decide_eq_true (by first | (with_reducible assumption) | assumption)
                  obtain ⟨ad147, A147_4, c147_4, e147, hx147_0, hx147_1, hx147_2, hx147_3, hx147_4, hl147_4, hi147_4⟩ := at_T47 HR1.out x5_1 p147 q147
                  obtain rfl : ad145 = ad147 := (by injection e147)
                  have HR147_4 := Aside0.mk hi147_4
                  have HC147_4 := Aside0.mk hl147_4
                  clear hi147_4 hl147_4
                  replace p147 := eq_true p147
                  replace q147 := eq_true q147
                  have ea_ := Option.some.inj (hx145_4.symm.trans hx147_4)
                  injection ea_ with ea_ en_ ec_
                  subst ea_
                  subst ec_
                  clear en_
                  go_wp2_with (first | (go_at_call 23; (with_reducible refine (carrackref00_Same.calls k1 _ _ ((rd_T47 l0 x5_1).f1) _ _ ((rd_T47 l1 x5_1).f1) false _ ?side1 ?side2 ?side3 ?side4 A8.out).mono ?_); (case side1 => repeat (first | exact HR146_4.out | (with_reducible refine Kd.C_alloc ?_ _) | (with_reducible refine Kd.C_drewN ?_ _) | (with_reducible refine Kd.C_drew ?_))); (case side2 => exact HC146_4.out); (case side3 => repeat (first | exact HR147_4.out | (with_reducible refine Kd.C_alloc ?_ _) | (with_reducible refine Kd.C_drewN ?_ _) | (with_reducible refine Kd.C_drew ?_))); (case side4 => exact HC147_4.out); rintro e w' ⟨rfl, ⟨nd, rfl⟩⟩; (try first | exact ⟨rfl, _, World.drewN_drewN _ _ _⟩ | exact ⟨rfl, _, Eq.trans (World.drewN_drewN _ _ _) (congrArg (World.drewN _) (Nat.add_assoc _ _ _))⟩)))
                  repeat (go_quiet (first | (go_at_call 23; (with_reducible refine (carrackref00_Same.calls k1 _ _ ((rd_T47 l0 x5_1).f1) _ _ ((rd_T47 l1 x5_1).f1) false _ ?side1 ?side2 ?side3 ?side4 A8.out).mono ?_); (case side1 => repeat (first | exact HR146_4.out | (with_reducible refine Kd.C_alloc ?_ _) | (with_reducible refine Kd.C_drewN ?_ _) | (with_reducible refine Kd.C_drew ?_))); (case side2 => exact HC146_4.out); (case side3 => repeat (first | exact HR147_4.out | (with_reducible refine Kd.C_alloc ?_ _) | (with_reducible refine Kd.C_drewN ?_ _) | (with_reducible refine Kd.C_drew ?_))); (case side4 => exact HC147_4.out); rintro e w' ⟨rfl, ⟨nd, rfl⟩⟩; (try first | exact ⟨rfl, _, World.drewN_drewN _ _ _⟩ | exact ⟨rfl, _, Eq.trans (World.drewN_drewN _ _ _) (congrArg (World.drewN _) (Nat.add_assoc _ _ _))⟩))); try go_wp2_with (first | (go_at_call 23; (with_reducible refine (carrackref00_Same.calls k1 _ _ ((rd_T47 l0 x5_1).f1) _ _ ((rd_T47 l1 x5_1).f1) false _ ?side1 ?side2 ?side3 ?side4 A8.out).mono ?_); (case side1 => repeat (first | exact HR146_4.out | (with_reducible refine Kd.C_alloc ?_ _) | (with_reducible refine Kd.C_drewN ?_ _) | (with_reducible refine Kd.C_drew ?_))); (case side2 => exact HC146_4.out); (case side3 => repeat (first | exact HR147_4.out | (with_reducible refine Kd.C_alloc ?_ _) | (with_reducible refine Kd.C_drewN ?_ _) | (with_reducible refine Kd.C_drew ?_))); (case side4 => exact HC147_4.out); rintro e w' ⟨rfl, ⟨nd, rfl⟩⟩; (try first | exact ⟨rfl, _, World.drewN_drewN _ _ _⟩ | exact ⟨rfl, _, Eq.trans (World.drewN_drewN _ _ _) (congrArg (World.drewN _) (Nat.add_assoc _ _ _))⟩))))
                  go_ret
                  exact ⟨by first | rfl | (simp; done) | (simp [*]; done), by repeat (first | exact Drawn0.refl _ | apply Drawn0.step)⟩
            · rw [if_neg c6] at H
              exact absurd H (by simp)
          · rw [if_neg c5] at H
            exact absurd H (by simp)
        · rw [if_neg c4] at H
          have c4b0 : decide (x5_1 < (l0.length : Int)) = false := decide_eq_false c4
          clear c4
          obtain rfl := Option.some.inj H
          go_wp2
          repeat (go_quiet (fail); try go_wp2)
          go_ret
          exact ⟨by first | rfl | (simp; done) | (simp [*]; done), by repeat (first | exact Drawn0.refl _ | apply Drawn0.step)⟩
  · rw [if_neg c3] at H
    have c3b0 : ((l0.length : Int) == (l1.length : Int)) = false := beq_eq_false_iff_ne.mpr c3
    have c3b1 : ((l0.length : Int) != (l1.length : Int)) = true := bne_iff_ne.mpr c3
    have c3b2 : (l0.length == l1.length) = false := by first | simpa using c3 | (simp at c3 ⊢; omega)
    obtain rfl := Option.some.inj H
    go_enter Try.func19, Try.ntmps19
    go_wp2
    repeat (go_quiet (fail); try go_wp2)
    go_ret
    exact ⟨by first | rfl | (simp; done) | (simp [*]; done), by repeat (first | exact Drawn0.refl _ | apply Drawn0.step)⟩

/-! ### carrackref06_order: function 65 -/
mutual
def carrackref06_order.l0 : Nat → ByteArray → ByteArray → Int → Option (Int)
  | 0, _, _, _ => none
  | k + 1, x0, x1, x5 => if x5 < (x0.size : Int) then (carrackref06_order.j1 k x0 x1 x5 (decide (x5 < (x1.size : Int)))) else (carrackref06_order.j1 k x0 x1 x5 false)
def carrackref06_order.j1 : Nat → ByteArray → ByteArray → Int → Bool → Option (Int)
  | 0, _, _, _, _ => none
  | k + 1, x0, x1, x5, x15 => if x15 = true then (if 0 ≤ x5 then (if x5 < (x0.size : Int) then (if x5 < (x1.size : Int) then (if (bt x0 x5) = (bt x1 x5) then (carrackref06_order.l0 k x0 x1 (wrap64 (x5 + 1))) else (some (wrap64 ((wrap64 (bt x0 x5)) - (wrap64 (bt x1 x5)))))) else (none)) else (none)) else (none)) else (some (wrap64 ((x0.size : Int) - (x1.size : Int))))
end
def carrackref06_order.f (k : Nat) (a0 : ByteArray) (a1 : ByteArray) : Option (Int) := carrackref06_order.l0 k a0 a1 0
theorem carrackref06_order.mono_l : ∀ k, (∀ y0 y1 y2, LeO (carrackref06_order.l0 k y0 y1 y2) (carrackref06_order.l0 (k + 1) y0 y1 y2)) ∧ (∀ y0 y1 y2 y3, LeO (carrackref06_order.j1 k y0 y1 y2 y3) (carrackref06_order.j1 (k + 1) y0 y1 y2 y3))
  | 0 => ⟨fun _ _ _ r h => by simp [carrackref06_order.l0] at h, fun _ _ _ _ r h => by simp [carrackref06_order.j1] at h⟩
  | k + 1 => by
    obtain ⟨ih0, ih1⟩ := carrackref06_order.mono_l k
    refine ⟨?_, ?_⟩
    · intro y0 y1 y2
      unfold carrackref06_order.l0
      repeat' first
      | (with_reducible exact ih0 _ _ _)
      | (with_reducible exact ih1 _ _ _ _)
      | (with_reducible exact LeO.refl _)
      | (with_reducible exact LeO.none _)
      | (with_reducible refine LeO.ite ?_ ?_)
      | (with_reducible refine LeO.bind ?_ (fun _ => ?_))
      | exact ih0 _ _ _
      | exact ih1 _ _ _ _
      | exact LeO.none _
      | refine LeO.ite ?_ ?_
      | refine LeO.bind ?_ (fun _ => ?_)
    · intro y0 y1 y2 y3
      unfold carrackref06_order.j1
      repeat' first
      | (with_reducible exact ih0 _ _ _)
      | (with_reducible exact ih1 _ _ _ _)
      | (with_reducible exact LeO.refl _)
      | (with_reducible exact LeO.none _)
      | (with_reducible refine LeO.ite ?_ ?_)
      | (with_reducible refine LeO.bind ?_ (fun _ => ?_))
      | exact ih0 _ _ _
      | exact ih1 _ _ _ _
      | exact LeO.none _
      | refine LeO.ite ?_ ?_
      | refine LeO.bind ?_ (fun _ => ?_)
theorem carrackref06_order.mono : ∀ a0 a1 k, LeO (carrackref06_order.f k a0 a1) (carrackref06_order.f (k + 1) a0 a1) := by
  intro a0 a1 k
  obtain ⟨ih0, ih1⟩ := carrackref06_order.mono_l k
  unfold carrackref06_order.f
  repeat' first
      | (with_reducible exact ih0 _ _ _)
      | (with_reducible exact ih1 _ _ _ _)
      | (with_reducible exact LeO.refl _)
      | (with_reducible exact LeO.none _)
      | (with_reducible refine LeO.ite ?_ ?_)
      | (with_reducible refine LeO.bind ?_ (fun _ => ?_))
      | exact ih0 _ _ _
      | exact ih1 _ _ _ _
      | exact LeO.none _
      | refine LeO.ite ?_ ?_
      | refine LeO.bind ?_ (fun _ => ?_)
set_option maxHeartbeats 8000000 in
set_option maxRecDepth 100000 in
theorem carrackref06_order.calls (k : Nat) (a0 : ByteArray) (a1 : ByteArray) (r : Int) (w : World) (h : carrackref06_order.f k a0 a1 = some r) :
    Calls Try.prog 65 #[.string a0, .string a1] w fun e w' => e = .returned (.int .i64 r) ∧ Drawn0 w w' := by
  have H : (carrackref06_order.l0 k a0 a1 0) = some r := h
  clear h
  have H' := Aside0.mk H
  clear H
  go_enter Try.func65, Try.ntmps65
  go_wp2
  repeat (go_quiet (fail); try go_wp2)
  go_loopg [5] k (fun kq v5 w' => ∃ (x5_1 : Int), v5 = .int .i64 x5_1 ∧ Aside0 (carrackref06_order.l0 kq a0 a1 x5_1 = some r) ∧ Aside0 (kq ≤ k) ∧ Drawn0 w w')
  case atStart => exact ⟨(0), (by first | rfl | (simp; done) | (simp [*]; done)), H', ⟨Nat.le_refl _⟩, by repeat (first | exact Drawn0.refl _ | apply Drawn0.step)⟩
  case round =>
    clear H'
    try clear p2
    obtain ⟨x5_1, rfl, HA, HK1, ⟨m1, rfl⟩⟩ := hrel
    cases gk with
    | zero => exact absurd HA.out (by simp [carrackref06_order.l0])
    | succ k1 =>
      have H := HA.out
      clear HA
      simp only [carrackref06_order.l0] at H
      have HC3 := Aside0.mk H
      clear H
      go_upto_region 2 with (fail)
      repeat (go_quiet (fail); go_upto_region 2 with (fail))
      go_cut [15] (fun v15 wc => ∃ (kq : Nat) (x15_2 : Bool), v15 = .bool x15_2 ∧ Aside0 (carrackref06_order.j1 kq a0 a1 x5_1 x15_2 = some r) ∧ Aside0 (kq ≤ k1) ∧ Drawn0 w wc)
      case first =>
        have H := HC3.out
        clear HC3
        by_cases c4 : x5_1 < (a0.size : Int)
        · rw [if_pos c4] at H
          have c4b0 : decide (x5_1 < (a0.size : Int)) = true := decide_eq_true c4
          clear c4
          (first | rw [c4b0] | (simp only [i64_w, i32_w]; rw [c4b0]) | skip)
          have H' := Aside0.mk H
          clear H
          go_wp2
          repeat (go_quiet (fail); try go_wp2)
          go_meet
          case rel => exact ⟨_, (decide (x5_1 < (a1.size : Int))), (by first | rfl | (simp; done) | (simp [*]; done)), H', ⟨by have := HK1.out; first | omega | exact Nat.le_refl _⟩, by repeat (first | exact Drawn0.refl _ | apply Drawn0.step)⟩
        · rw [if_neg c4] at H
          have c4b0 : decide (x5_1 < (a0.size : Int)) = false := decide_eq_false c4
          clear c4
          (first | rw [c4b0] | (simp only [i64_w, i32_w]; rw [c4b0]) | skip)
          have H' := Aside0.mk H
          clear H
          go_wp2
          repeat (go_quiet (fail); try go_wp2)
          go_meet
          case rel => exact ⟨_, (false), (by first | rfl | (simp; done) | (simp [*]; done)), H', ⟨by have := HK1.out; first | omega | exact Nat.le_refl _⟩, by repeat (first | exact Drawn0.refl _ | apply Drawn0.step)⟩
      case rest =>
        clear HC3
        try clear p2
        try clear c4
        try clear c4b0
        try clear p2
        obtain ⟨kq, x15_2, rfl, HA, HJ2, ⟨mc2, rfl⟩⟩ := hcut
        cases kq with
        | zero => exact absurd HA.out (by simp [carrackref06_order.j1])
        | succ kj2 =>
          have H := HA.out
          clear HA
          simp only [carrackref06_order.j1] at H
          by_cases c5 : x15_2 = true
          · subst c5
            have H1 : (if 0 ≤ x5_1 then (if x5_1 < (a0.size : Int) then (if x5_1 < (a1.size : Int) then (if (bt a0 x5_1) = (bt a1 x5_1) then (carrackref06_order.l0 kj2 a0 a1 (wrap64 (x5_1 + 1))) else (some (wrap64 ((wrap64 (bt a0 x5_1)) - (wrap64 (bt a1 x5_1)))))) else (none)) else (none)) else (none)) = some r := by rw [if_pos rfl] at H; exact H
            clear H
            have H := H1
            clear H1
            by_cases c6 : 0 ≤ x5_1
            · rw [if_pos c6] at H
              have c6b0 : decide (0 ≤ x5_1) = true := decide_eq_true c6
              clear c6
              by_cases c7 : x5_1 < (a0.size : Int)
              · rw [if_pos c7] at H
                have c7b0 : decide (x5_1 < (a0.size : Int)) = true := decide_eq_true c7
                clear c7
                by_cases c9 : x5_1 < (a1.size : Int)
                · rw [if_pos c9] at H
                  have c9b0 : decide (x5_1 < (a1.size : Int)) = true := decide_eq_true c9
                  clear c9
                  by_cases c11 : (bt a0 x5_1) = (bt a1 x5_1)
                  · rw [if_pos c11] at H
                    have c11b0 : ((bt a0 x5_1) == (bt a1 x5_1)) = true := beq_iff_eq.mpr c11
                    have c11b1 : ((bt a0 x5_1) != (bt a1 x5_1)) = false := bne_eq_false_iff_eq.mpr c11
                    clear c11
                    have H' := Aside0.mk H
                    clear H
                    have p8 : 0 ≤ (x5_1 : Int) := of_decide_eq_true (by first | (with_reducible assumption) | assumption)
                    have q8 : x5_1 < (a0.size : Int) := of_decide_eq_true (by first | (with_reducible assumption) | assumption)
                    have hx8 := bt_at a0 x5_1
                    replace p8 := eq_true p8
                    replace q8 := eq_true q8
                    have p10 : 0 ≤ (x5_1 : Int) := of_decide_eq_true (by first | (with_reducible assumption) | assumption)
                    have q10 : x5_1 < (a1.size : Int) := of_decide_eq_true (by first | (with_reducible assumption) | assumption)
                    have hx10 := bt_at a1 x5_1
                    replace p10 := eq_true p10
                    replace q10 := eq_true q10
                    go_wp2
                    repeat (go_quiet (fail); try go_wp2)
                    go_roundg kj2
                    case measure => have := HK1.out; have := HJ2.out; omega
                    case rel => exact ⟨(wrap64 (x5_1 + 1)), (by first | rfl | (simp; done) | (simp [*]; done)), H', ⟨by have := HK1.out; have := HJ2.out; omega⟩, by repeat (first | exact Drawn0.refl _ | apply Drawn0.step)⟩
                  · rw [if_neg c11] at H
                    have c11b0 : ((bt a0 x5_1) == (bt a1 x5_1)) = false := beq_eq_false_iff_ne.mpr c11
                    have c11b1 : ((bt a0 x5_1) != (bt a1 x5_1)) = true := bne_iff_ne.mpr c11
                    obtain rfl := Option.some.inj H
                    have p8 : 0 ≤ (x5_1 : Int) := of_decide_eq_true (by first | (with_reducible assumption) | assumption)
                    have q8 : x5_1 < (a0.size : Int) := of_decide_eq_true (by first | (with_reducible assumption) | assumption)
                    have hx8 := bt_at a0 x5_1
                    replace p8 := eq_true p8
                    replace q8 := eq_true q8
                    have p10 : 0 ≤ (x5_1 : Int) := of_decide_eq_true (by first | (with_reducible assumption) | assumption)
                    have q10 : x5_1 < (a1.size : Int) := of_decide_eq_true (by first | (with_reducible assumption) | assumption)
                    have hx10 := bt_at a1 x5_1
                    replace p10 := eq_true p10
                    replace q10 := eq_true q10
                    have p12 : 0 ≤ (x5_1 : Int) := of_decide_eq_true (by first | (with_reducible assumption) | assumption)
                    have q12 : x5_1 < (a0.size : Int) := of_decide_eq_true (by first | (with_reducible assumption) | assumption)
                    have hx12 := bt_at a0 x5_1
                    replace p12 := eq_true p12
                    replace q12 := eq_true q12
                    have p13 : 0 ≤ (x5_1 : Int) := of_decide_eq_true (by first | (with_reducible assumption) | assumption)
                    have q13 : x5_1 < (a1.size : Int) := of_decide_eq_true (by first | (with_reducible assumption) | assumption)
                    have hx13 := bt_at a1 x5_1
                    replace p13 := eq_true p13
                    replace q13 := eq_true q13
                    go_wp2
                    repeat (go_quiet (fail); try go_wp2)
                    go_ret
                    exact ⟨by first | rfl | (simp; done) | (simp [*]; done), by repeat (first | exact Drawn0.refl _ | apply Drawn0.step)⟩
                · rw [if_neg c9] at H
                  exact absurd H (by simp)
              · rw [if_neg c7] at H
                exact absurd H (by simp)
            · rw [if_neg c6] at H
              exact absurd H (by simp)
          · replace c5 := Bool.eq_false_iff.mpr c5
            subst c5
            have H1 : (some (wrap64 ((a0.size : Int) - (a1.size : Int)))) = some r := by rw [if_neg (show ¬ (false = true) by decide)] at H; exact H
            clear H
            have H := H1
            clear H1
            obtain rfl := Option.some.inj H
            go_wp2
            repeat (go_quiet (fail); try go_wp2)
            go_ret
            exact ⟨by first | rfl | (simp; done) | (simp [*]; done), by repeat (first | exact Drawn0.refl _ | apply Drawn0.step)⟩

end Go.Proofs.Ytbhmncenbpdcjaa.P
end
section
/- Printed by a program of this workplace (wip/print/gprint.py, over the kit's print.py): functions of the program as Lean functions, and that the Go text comes to their answers. -/
namespace Go.Proofs.Ytbhmncenbpdcjaa.P
open Go.RowKit Go.Proofs.YtbhmncenbpdcjaaW.PrintWords Go.Proofs.YtbhmncenbpdcjaaW.PrintLast Go.Proofs.YtbhmncenbpdcjaaW.PrintMore
attribute [local go_sem] max2_int min2_int max_two min_two max_three min_three max_four min_four   -- for this text's walks alone
set_option linter.unusedVariables false
set_option linter.unusedSimpArgs false

attribute [local go_sem high] eqA30
/-! ### carrackref06_Find: function 22 -/
def carrackref06_Find.l0 : Nat → List (S47) → Int → Int → Int → ByteArray → Int → Option (List Int × Bool)
  | 0, _, _, _, _, _, _ => none
  | k + 1, x0, x6, x181000, x181001, x181002, x181003 => if x6 < (x0.length : Int) then (if 0 ≤ x6 then (if (((rd_T47 x0 x6).f0.f0) == x181000 && (((rd_T47 x0 x6).f0.f1) == x181001 && ((((rd_T47 x0 x6).f0.f2).toList) == x181002.toList && (((rd_T47 x0 x6).f0.f3) == x181003)))) = true then (if ([] : List Int).length + ((rd_T47 x0 x6).f1).length < 140737488355328 then (some ((([] : List Int) ++ ((rd_T47 x0 x6).f1)), true)) else (none)) else (carrackref06_Find.l0 k x0 (wrap64 (x6 + 1)) x181000 x181001 x181002 x181003)) else (none)) else (some (([] : List Int), false))
def carrackref06_Find.f (k : Nat) (l0 : List (S47)) (a1_0 : Int) (a1_1 : Int) (a1_2 : ByteArray) (a1_3 : Int) : Option (List Int × Bool) := (carrackref06_Ordered.f k l0).bind fun t181 => (if t181 = true then (carrackref06_Find.l0 k l0 0 a1_0 a1_1 a1_2 a1_3) else (some (([] : List Int), false)))
theorem carrackref06_Find.mono_l : ∀ k, (∀ y0 y1 y2 y3 y4 y5, LeO (carrackref06_Find.l0 k y0 y1 y2 y3 y4 y5) (carrackref06_Find.l0 (k + 1) y0 y1 y2 y3 y4 y5))
  | 0 => fun _ _ _ _ _ _ r h => by simp [carrackref06_Find.l0] at h
  | k + 1 => by
    have ih0 := carrackref06_Find.mono_l k
    · intro y0 y1 y2 y3 y4 y5
      unfold carrackref06_Find.l0
      repeat' first
      | (with_reducible exact ih0 _ _ _ _ _ _)
      | (with_reducible exact carrackref06_Ordered.mono _ _)
      | (with_reducible exact LeO.refl _)
      | (with_reducible exact LeO.none _)
      | (with_reducible refine LeO.ite ?_ ?_)
      | (with_reducible refine LeO.bind ?_ (fun _ => ?_))
      | exact ih0 _ _ _ _ _ _
      | exact carrackref06_Ordered.mono _ _
      | exact LeO.none _
      | refine LeO.ite ?_ ?_
      | refine LeO.bind ?_ (fun _ => ?_)
theorem carrackref06_Find.mono : ∀ a0 a1 a2 a3 a4 k, LeO (carrackref06_Find.f k a0 a1 a2 a3 a4) (carrackref06_Find.f (k + 1) a0 a1 a2 a3 a4) := by
  intro a0 a1 a2 a3 a4 k
  have ih0 := carrackref06_Find.mono_l k
  unfold carrackref06_Find.f
  repeat' first
      | (with_reducible exact ih0 _ _ _ _ _ _)
      | (with_reducible exact carrackref06_Ordered.mono _ _)
      | (with_reducible exact LeO.refl _)
      | (with_reducible exact LeO.none _)
      | (with_reducible refine LeO.ite ?_ ?_)
      | (with_reducible refine LeO.bind ?_ (fun _ => ?_))
      | exact ih0 _ _ _ _ _ _
      | exact carrackref06_Ordered.mono _ _
      | exact LeO.none _
      | refine LeO.ite ?_ ?_
      | refine LeO.bind ?_ (fun _ => ?_)
set_option maxHeartbeats 8000000 in
set_option maxRecDepth 100000 in
theorem carrackref06_Find.calls (k : Nat) (A0 : Option Addr) (c0 : Nat) (l0 : List (S47)) (a1_0 : Int) (a1_1 : Int) (a1_2 : ByteArray) (a1_3 : Int) (r1 : List Int) (r2 : Bool) (w : World) (hr0 : Kd.C k47 w A0 l0.length l0) (hc0 : l0.length ≤ c0) (h : carrackref06_Find.f k l0 a1_0 a1_1 a1_2 a1_3 = some (r1, r2)) :
    Calls Try.prog 22 #[.slice A0 l0.length c0, .agg #[.int .i64 a1_0, .int .u8 a1_1, .string a1_2, .int .i64 a1_3]] w fun e w' => ∃ v0_ : Value, e = .returned (.tuple #[v0_, .bool r2]) ∧ Kd.R (Kd.int .u8) 5 w' w.heap.size (fun _ => True) v0_ r1 ∧ Below w.heap.size w w' := by
  have hu30 := Try.underlying30
  have HR0 := Aside0.mk hr0
  have HC0 := Aside0.mk hc0
  clear hr0 hc0
  have HB := Aside0.mk (Below.refl w.heap.size w)
  have H : ((carrackref06_Ordered.f k l0).bind fun t181 => (if t181 = true then (carrackref06_Find.l0 k l0 0 a1_0 a1_1 a1_2 a1_3) else (some (([] : List Int), false)))) = some (r1, r2) := h
  clear h
  replace H := Option.bind_eq_some_iff.mp H
  obtain ⟨t181, A30, H⟩ := H
  replace H : (if t181 = true then (carrackref06_Find.l0 k l0 0 a1_0 a1_1 a1_2 a1_3) else (some (([] : List Int), false))) = some (r1, r2) := H
  have A3 := Aside0.mk A30
  clear A30
  by_cases c4 : t181 = true
  · subst c4
    have H1 : (carrackref06_Find.l0 k l0 0 a1_0 a1_1 a1_2 a1_3) = some (r1, r2) := by rw [if_pos rfl] at H; exact H
    clear H
    have H := H1
    clear H1
    have H' := Aside0.mk H
    clear H
    go_enter Try.func22, Try.ntmps22
    go_wp2_with (first | ((with_reducible refine gate_dst (N := 3) rfl ?_); refine box_event ?hg (N := 3) ?hd (cs := #[.int .i64 a1_0, .int .u8 a1_1, .string a1_2, .int .i64 a1_3]) (t := 30) ?hr ?_; (case hd => rfl); (case hg => rfl); (case hr => first | (go_simp; done) | (go_simp; rfl)); intro gb180 hg w5 hbox hb; have n0_ := Aside0.mk (below_step (by repeat (first | (with_reducible first | exact HB.out | apply below_alloc | apply pw_below_drewN | apply below_drew1) | exact HB.out)) hb); have n1_ := Aside0.mk (hbox); have n2_ := Aside0.mk ((by rw [hg]; exact (below_size (by repeat (first | (with_reducible first | exact HB.out | apply below_alloc | apply pw_below_drewN | apply below_drew1) | exact HB.out))) : w.heap.size ≤ gb180)); have n3_ := Aside0.mk ((by rw [hg]; exact (below_size (by repeat (first | (with_reducible first | exact HB.out | apply below_alloc | apply pw_below_drewN | apply below_drew1) | exact HB.out))) : w.heap.size ≤ gb180)); clear HB; have HB := n0_; have BK180 := n1_; have GW180 := n2_; have GE180 := n3_; clear n0_ n1_ n2_ n3_; clear hb hbox hg) | (go_at_call 40; (with_reducible refine (carrackref06_Ordered.calls k _ _ l0 true _ ?side1 ?side2 A3.out).mono ?_); (case side1 => repeat (first | exact (Kd.C_below HR0.out HB.out) | (with_reducible refine Kd.C_alloc ?_ _) | (with_reducible refine Kd.C_drewN ?_ _) | (with_reducible refine Kd.C_drew ?_))); (case side2 => exact HC0.out); rintro e w6 ⟨rfl, hb⟩; have n0_ := Aside0.mk (blk_below (g := gb180) (o := .cells #[.int .i64 a1_0, .int .u8 a1_1, .string a1_2, .int .i64 a1_3] 30 (0, 0)) (by (with_reducible repeat (first | refine blk_drewN ?_ _ | refine blk_drew ?_ | refine blk_alloc ?_ _)); exact BK180.out) hb); have n1_ := Aside0.mk (below_step (by repeat (first | (with_reducible first | exact HB.out | apply below_alloc | apply pw_below_drewN | apply below_drew1 | refine below_set ?_ GE180.out) | exact HB.out)) hb); clear BK180; clear HB; have BK180 := n0_; have HB := n1_; clear n0_ n1_; (try clear hb); (try clear hb2); (try clear hk); (try clear hi)))
    repeat (go_quiet (first | ((with_reducible refine gate_dst (N := 3) rfl ?_); refine box_event ?hg (N := 3) ?hd (cs := #[.int .i64 a1_0, .int .u8 a1_1, .string a1_2, .int .i64 a1_3]) (t := 30) ?hr ?_; (case hd => rfl); (case hg => rfl); (case hr => first | (go_simp; done) | (go_simp; rfl)); intro gb180 hg w5 hbox hb; have n0_ := Aside0.mk (below_step (by repeat (first | (with_reducible first | exact HB.out | apply below_alloc | apply pw_below_drewN | apply below_drew1) | exact HB.out)) hb); have n1_ := Aside0.mk (hbox); have n2_ := Aside0.mk ((by rw [hg]; exact (below_size (by repeat (first | (with_reducible first | exact HB.out | apply below_alloc | apply pw_below_drewN | apply below_drew1) | exact HB.out))) : w.heap.size ≤ gb180)); have n3_ := Aside0.mk ((by rw [hg]; exact (below_size (by repeat (first | (with_reducible first | exact HB.out | apply below_alloc | apply pw_below_drewN | apply below_drew1) | exact HB.out))) : w.heap.size ≤ gb180)); clear HB; have HB := n0_; have BK180 := n1_; have GW180 := n2_; have GE180 := n3_; clear n0_ n1_ n2_ n3_; clear hb hbox hg) | (go_at_call 40; (with_reducible refine (carrackref06_Ordered.calls k _ _ l0 true _ ?side1 ?side2 A3.out).mono ?_); (case side1 => repeat (first | exact (Kd.C_below HR0.out HB.out) | (with_reducible refine Kd.C_alloc ?_ _) | (with_reducible refine Kd.C_drewN ?_ _) | (with_reducible refine Kd.C_drew ?_))); (case side2 => exact HC0.out); rintro e w6 ⟨rfl, hb⟩; have n0_ := Aside0.mk (blk_below (g := gb180) (o := .cells #[.int .i64 a1_0, .int .u8 a1_1, .string a1_2, .int .i64 a1_3] 30 (0, 0)) (by (with_reducible repeat (first | refine blk_drewN ?_ _ | refine blk_drew ?_ | refine blk_alloc ?_ _)); exact BK180.out) hb); have n1_ := Aside0.mk (below_step (by repeat (first | (with_reducible first | exact HB.out | apply below_alloc | apply pw_below_drewN | apply below_drew1 | refine below_set ?_ GE180.out) | exact HB.out)) hb); clear BK180; clear HB; have BK180 := n0_; have HB := n1_; clear n0_ n1_; (try clear hb); (try clear hb2); (try clear hk); (try clear hi))); try go_wp2_with (first | ((with_reducible refine gate_dst (N := 3) rfl ?_); refine box_event ?hg (N := 3) ?hd (cs := #[.int .i64 a1_0, .int .u8 a1_1, .string a1_2, .int .i64 a1_3]) (t := 30) ?hr ?_; (case hd => rfl); (case hg => rfl); (case hr => first | (go_simp; done) | (go_simp; rfl)); intro gb180 hg w5 hbox hb; have n0_ := Aside0.mk (below_step (by repeat (first | (with_reducible first | exact HB.out | apply below_alloc | apply pw_below_drewN | apply below_drew1) | exact HB.out)) hb); have n1_ := Aside0.mk (hbox); have n2_ := Aside0.mk ((by rw [hg]; exact (below_size (by repeat (first | (with_reducible first | exact HB.out | apply below_alloc | apply pw_below_drewN | apply below_drew1) | exact HB.out))) : w.heap.size ≤ gb180)); have n3_ := Aside0.mk ((by rw [hg]; exact (below_size (by repeat (first | (with_reducible first | exact HB.out | apply below_alloc | apply pw_below_drewN | apply below_drew1) | exact HB.out))) : w.heap.size ≤ gb180)); clear HB; have HB := n0_; have BK180 := n1_; have GW180 := n2_; have GE180 := n3_; clear n0_ n1_ n2_ n3_; clear hb hbox hg) | (go_at_call 40; (with_reducible refine (carrackref06_Ordered.calls k _ _ l0 true _ ?side1 ?side2 A3.out).mono ?_); (case side1 => repeat (first | exact (Kd.C_below HR0.out HB.out) | (with_reducible refine Kd.C_alloc ?_ _) | (with_reducible refine Kd.C_drewN ?_ _) | (with_reducible refine Kd.C_drew ?_))); (case side2 => exact HC0.out); rintro e w6 ⟨rfl, hb⟩; have n0_ := Aside0.mk (blk_below (g := gb180) (o := .cells #[.int .i64 a1_0, .int .u8 a1_1, .string a1_2, .int .i64 a1_3] 30 (0, 0)) (by (with_reducible repeat (first | refine blk_drewN ?_ _ | refine blk_drew ?_ | refine blk_alloc ?_ _)); exact BK180.out) hb); have n1_ := Aside0.mk (below_step (by repeat (first | (with_reducible first | exact HB.out | apply below_alloc | apply pw_below_drewN | apply below_drew1 | refine below_set ?_ GE180.out) | exact HB.out)) hb); clear BK180; clear HB; have BK180 := n0_; have HB := n1_; clear n0_ n1_; (try clear hb); (try clear hb2); (try clear hk); (try clear hi))))
    go_loopg [6] k (fun kq v6 w' => ∃ (x6_1 : Int), v6 = .int .i64 x6_1 ∧ Aside0 (carrackref06_Find.l0 kq l0 x6_1 a1_0 a1_1 a1_2 a1_3 = some (r1, r2)) ∧ Aside0 (kq ≤ k) ∧ Aside0 (w'.heap[gb180]? = some (.cells #[.int .i64 a1_0, .int .u8 a1_1, .string a1_2, .int .i64 a1_3] 30 (0, 0))) ∧ Aside0 (Below w.heap.size w w'))
    case atStart => exact ⟨(0), (by first | rfl | (simp; done) | (simp [*]; done)), H', ⟨Nat.le_refl _⟩, ⟨by (with_reducible repeat (first | refine blk_drewN ?_ _ | refine blk_drew ?_ | refine blk_alloc ?_ _)); exact BK180.out⟩, ⟨by repeat (first | (with_reducible first | exact HB.out | apply below_alloc | apply pw_below_drewN | apply below_drew1 | refine below_set ?_ GE180.out) | exact HB.out)⟩⟩
    case round =>
      clear H'
      try clear c2
      try clear p2
      try clear c4
      obtain ⟨x6_1, rfl, HA, HK1, BK180, HB⟩ := hrel
      cases gk with
      | zero => exact absurd HA.out (by simp [carrackref06_Find.l0])
      | succ k1 =>
        have H := HA.out
        clear HA
        simp only [carrackref06_Find.l0] at H
        by_cases c7 : x6_1 < (l0.length : Int)
        · rw [if_pos c7] at H
          have c7b0 : decide (x6_1 < (l0.length : Int)) = true := decide_eq_true c7
          clear c7
          by_cases c8 : 0 ≤ x6_1
          · rw [if_pos c8] at H
            have c8b0 : decide (0 ≤ x6_1) = true := decide_eq_true c8
            clear c8
            by_cases c9 : (((rd_T47 l0 x6_1).f0.f0) == a1_0 && (((rd_T47 l0 x6_1).f0.f1) == a1_1 && ((((rd_T47 l0 x6_1).f0.f2).toList) == a1_2.toList && (((rd_T47 l0 x6_1).f0.f3) == a1_3)))) = true
            · rw [if_pos c9] at H
              have c9b0 : (((rd_T47 l0 x6_1).f0.f0) == a1_0 && (((rd_T47 l0 x6_1).f0.f1) == a1_1 && ((((rd_T47 l0 x6_1).f0.f2).toList) == a1_2.toList && (((rd_T47 l0 x6_1).f0.f3) == a1_3)))) = true := c9
              (try (have c9b1 : decide (((rd_T47 l0 x6_1).f0.f0) = a1_0 && (((rd_T47 l0 x6_1).f0.f1) == a1_1 && ((((rd_T47 l0 x6_1).f0.f2).toList) == a1_2.toList && (((rd_T47 l0 x6_1).f0.f3) == a1_3)))) = true := by simpa using c9))
              (try (have c9b2 : (((rd_T47 l0 x6_1).f0.f0) == a1_0 && (((rd_T47 l0 x6_1).f0.f1) == a1_1 && ((((rd_T47 l0 x6_1).f0.f2).toList) == a1_2.toList && (((rd_T47 l0 x6_1).f0.f3) == a1_3)))) = true := by simpa using c9))
              clear c9
              by_cases c10 : ([] : List Int).length + ((rd_T47 l0 x6_1).f1).length < 140737488355328
              · rw [if_pos c10] at H
                have LMc10 := Aside0.mk c10
                clear c10
                obtain ⟨y184, hy184⟩ : ∃ y_ : List Int, y_ = (([] : List Int) ++ ((rd_T47 l0 x6_1).f1)) := ⟨_, rfl⟩
                replace H : (some (y184, true)) = some (r1, r2) := by first | (rw [hy184]; with_reducible exact H) | (have H2_ := (Option.bind_some _ _).symm.trans H; rw [hy184]; with_reducible exact H2_) | (have H2_ := (Option.bind_some _ _).symm.trans H; with_reducible exact H2_) | with_reducible exact H | (rw [hy184]; exact H) | exact H
                have Ny184 := Aside0.mk hy184
                clear hy184
                simp only [Option.some.injEq, Prod.mk.injEq] at H
                obtain ⟨rfl, rfl⟩ := H
                have p182 : 0 ≤ (x6_1 : Int) := of_decide_eq_true (by first | (with_reducible assumption) | assumption)
                have q182 : x6_1 < (l0.length : Int) := of_decide_eq_true (by first | (with_reducible assumption) | assumption)
                obtain ⟨ad182, A182_4, c182_4, e182, hx182_0, hx182_1, hx182_2, hx182_3, hx182_4, hl182_4, hi182_4⟩ := at_T47 HR0.out x6_1 p182 q182
                cases e182
                replace hx182_0 := (HB.out.cell (World.block_lt_of_cell? w _ hx182_0)).trans hx182_0
                replace hx182_1 := (HB.out.cell (World.block_lt_of_cell? w _ hx182_1)).trans hx182_1
                replace hx182_2 := (HB.out.cell (World.block_lt_of_cell? w _ hx182_2)).trans hx182_2
                replace hx182_3 := (HB.out.cell (World.block_lt_of_cell? w _ hx182_3)).trans hx182_3
                replace hx182_4 := (HB.out.cell (World.block_lt_of_cell? w _ hx182_4)).trans hx182_4
                have HR182_4 := Aside0.mk hi182_4
                have HC182_4 := Aside0.mk hl182_4
                clear hi182_4 hl182_4
                replace p182 := eq_true p182
                replace q182 := eq_true q182
                have hcz11_0 : wr.cell? ⟨gb180, 0, none⟩ = some (.int .i64 a1_0) := (blk_cell BK180.out 0).trans rfl
                have hcz11_1 : wr.cell? ⟨gb180, 1, none⟩ = some (.int .u8 a1_1) := (blk_cell BK180.out 1).trans rfl
                have hcz11_2 : wr.cell? ⟨gb180, 2, none⟩ = some (.string a1_2) := (blk_cell BK180.out 2).trans rfl
                have hcz11_3 : wr.cell? ⟨gb180, 3, none⟩ = some (.int .i64 a1_3) := (blk_cell BK180.out 3).trans rfl
                have hfz11_0 := blk_frozen BK180.out 0
                have hfz11_1 := blk_frozen BK180.out 1
                have hfz11_2 := blk_frozen BK180.out 2
                have hfz11_3 := blk_frozen BK180.out 3
                have p183 : 0 ≤ (x6_1 : Int) := of_decide_eq_true (by first | (with_reducible assumption) | assumption)
                have q183 : x6_1 < (l0.length : Int) := of_decide_eq_true (by first | (with_reducible assumption) | assumption)
                obtain ⟨ad183, A183_4, c183_4, e183, hx183_0, hx183_1, hx183_2, hx183_3, hx183_4, hl183_4, hi183_4⟩ := at_T47 HR0.out x6_1 p183 q183
                obtain rfl : ad182 = ad183 := (by injection e183)
                replace hx183_0 := (HB.out.cell (World.block_lt_of_cell? w _ hx183_0)).trans hx183_0
                replace hx183_1 := (HB.out.cell (World.block_lt_of_cell? w _ hx183_1)).trans hx183_1
                replace hx183_2 := (HB.out.cell (World.block_lt_of_cell? w _ hx183_2)).trans hx183_2
                replace hx183_3 := (HB.out.cell (World.block_lt_of_cell? w _ hx183_3)).trans hx183_3
                replace hx183_4 := (HB.out.cell (World.block_lt_of_cell? w _ hx183_4)).trans hx183_4
                have HR183_4 := Aside0.mk hi183_4
                have HC183_4 := Aside0.mk hl183_4
                clear hi183_4 hl183_4
                replace p183 := eq_true p183
                replace q183 := eq_true q183
                have ea_ := Option.some.inj (hx182_4.symm.trans hx183_4)
                injection ea_ with ea_ en_ ec_
                subst ea_
                subst ec_
                clear en_
                go_wp2_with (first | ((with_reducible refine gate_builtin (b := .append) (xs := #[.tmp 24, .tmp 29]) rfl ?_); at_builtin; refine Kd.R_append_rows (Kd.int .u8) (w0 := w) w.heap.size rfl (.tmp 24) (.tmp 29) 22 5 (.int .u8 0) 1 rfl Try.underlying22 info5 rfl (by decide) (by omega) (.slice none 0 0) ([] : List Int) ((rd_T47 l0 x6_1).f1) _ _ _ (fun _ => True) (fun _ => False) rfl rfl ?aO ?aR (fun _ _ h => h) (fun _ h => h.elim) ?aF ?aB ?aS ?aL ?_; (case aR => repeat (first | exact (Kd.C_below HR183_4.out HB.out) | exact (Kd.C_drewN (Kd.C_below HR183_4.out HB.out) _) | exact (Kd.C_drew (Kd.C_below HR183_4.out HB.out)) | (with_reducible refine Kd.C_alloc ?_ _) | (with_reducible refine Kd.C_drewN ?_ _) | (with_reducible refine Kd.C_drew ?_))); (case aB => exact (by repeat (first | (with_reducible first | exact HB.out | apply below_alloc | apply pw_below_drewN | apply below_drew1 | refine below_set ?_ GE180.out) | exact HB.out))); (case aF => exact (fun _ _ => trivial)); (case aO => exact ((Kd.R_nil _ _ _ _ (fun _ => True)))); (case aS => exact (below_size (by repeat (first | (with_reducible first | exact HB.out | apply below_alloc | apply pw_below_drewN | apply below_drew1 | refine below_set ?_ GE180.out) | exact HB.out)))); (case aL => have := LMc10.out; omega); intro v185 w12 ho hb hg hat; rw [← Ny184.out] at ho; have n0_ := Aside0.mk (blk_grown (g := gb180) (o := .cells #[.int .i64 a1_0, .int .u8 a1_1, .string a1_2, .int .i64 a1_3] 30 (0, 0)) (by (with_reducible repeat (first | refine blk_drewN ?_ _ | refine blk_drew ?_ | refine blk_alloc ?_ _)); exact BK180.out) hg (by simp [Value.ownBlock])); have n1_ := Aside0.mk (hb); have n2_ := Aside0.mk (ho); clear BK180; clear HB; have BK180 := n0_; have HB := n1_; have HO186 := n2_; clear n0_ n1_ n2_; clear ho hb hg hat))
                repeat (go_quiet (first | ((with_reducible refine gate_builtin (b := .append) (xs := #[.tmp 24, .tmp 29]) rfl ?_); at_builtin; refine Kd.R_append_rows (Kd.int .u8) (w0 := w) w.heap.size rfl (.tmp 24) (.tmp 29) 22 5 (.int .u8 0) 1 rfl Try.underlying22 info5 rfl (by decide) (by omega) (.slice none 0 0) ([] : List Int) ((rd_T47 l0 x6_1).f1) _ _ _ (fun _ => True) (fun _ => False) rfl rfl ?aO ?aR (fun _ _ h => h) (fun _ h => h.elim) ?aF ?aB ?aS ?aL ?_; (case aR => repeat (first | exact (Kd.C_below HR183_4.out HB.out) | exact (Kd.C_drewN (Kd.C_below HR183_4.out HB.out) _) | exact (Kd.C_drew (Kd.C_below HR183_4.out HB.out)) | (with_reducible refine Kd.C_alloc ?_ _) | (with_reducible refine Kd.C_drewN ?_ _) | (with_reducible refine Kd.C_drew ?_))); (case aB => exact (by repeat (first | (with_reducible first | exact HB.out | apply below_alloc | apply pw_below_drewN | apply below_drew1 | refine below_set ?_ GE180.out) | exact HB.out))); (case aF => exact (fun _ _ => trivial)); (case aO => exact ((Kd.R_nil _ _ _ _ (fun _ => True)))); (case aS => exact (below_size (by repeat (first | (with_reducible first | exact HB.out | apply below_alloc | apply pw_below_drewN | apply below_drew1 | refine below_set ?_ GE180.out) | exact HB.out)))); (case aL => have := LMc10.out; omega); intro v185 w12 ho hb hg hat; rw [← Ny184.out] at ho; have n0_ := Aside0.mk (blk_grown (g := gb180) (o := .cells #[.int .i64 a1_0, .int .u8 a1_1, .string a1_2, .int .i64 a1_3] 30 (0, 0)) (by (with_reducible repeat (first | refine blk_drewN ?_ _ | refine blk_drew ?_ | refine blk_alloc ?_ _)); exact BK180.out) hg (by simp [Value.ownBlock])); have n1_ := Aside0.mk (hb); have n2_ := Aside0.mk (ho); clear BK180; clear HB; have BK180 := n0_; have HB := n1_; have HO186 := n2_; clear n0_ n1_ n2_; clear ho hb hg hat)); try go_wp2_with (first | ((with_reducible refine gate_builtin (b := .append) (xs := #[.tmp 24, .tmp 29]) rfl ?_); at_builtin; refine Kd.R_append_rows (Kd.int .u8) (w0 := w) w.heap.size rfl (.tmp 24) (.tmp 29) 22 5 (.int .u8 0) 1 rfl Try.underlying22 info5 rfl (by decide) (by omega) (.slice none 0 0) ([] : List Int) ((rd_T47 l0 x6_1).f1) _ _ _ (fun _ => True) (fun _ => False) rfl rfl ?aO ?aR (fun _ _ h => h) (fun _ h => h.elim) ?aF ?aB ?aS ?aL ?_; (case aR => repeat (first | exact (Kd.C_below HR183_4.out HB.out) | exact (Kd.C_drewN (Kd.C_below HR183_4.out HB.out) _) | exact (Kd.C_drew (Kd.C_below HR183_4.out HB.out)) | (with_reducible refine Kd.C_alloc ?_ _) | (with_reducible refine Kd.C_drewN ?_ _) | (with_reducible refine Kd.C_drew ?_))); (case aB => exact (by repeat (first | (with_reducible first | exact HB.out | apply below_alloc | apply pw_below_drewN | apply below_drew1 | refine below_set ?_ GE180.out) | exact HB.out))); (case aF => exact (fun _ _ => trivial)); (case aO => exact ((Kd.R_nil _ _ _ _ (fun _ => True)))); (case aS => exact (below_size (by repeat (first | (with_reducible first | exact HB.out | apply below_alloc | apply pw_below_drewN | apply below_drew1 | refine below_set ?_ GE180.out) | exact HB.out)))); (case aL => have := LMc10.out; omega); intro v185 w12 ho hb hg hat; rw [← Ny184.out] at ho; have n0_ := Aside0.mk (blk_grown (g := gb180) (o := .cells #[.int .i64 a1_0, .int .u8 a1_1, .string a1_2, .int .i64 a1_3] 30 (0, 0)) (by (with_reducible repeat (first | refine blk_drewN ?_ _ | refine blk_drew ?_ | refine blk_alloc ?_ _)); exact BK180.out) hg (by simp [Value.ownBlock])); have n1_ := Aside0.mk (hb); have n2_ := Aside0.mk (ho); clear BK180; clear HB; have BK180 := n0_; have HB := n1_; have HO186 := n2_; clear n0_ n1_ n2_; clear ho hb hg hat)))
                go_ret2
                exact ⟨_, by first | rfl | (simp [errW_none, errW_some] <;> rfl) | (simp [*, errW_none, errW_some] <;> rfl), by (with_reducible repeat (first | apply Kd.R_alloc | apply Kd.R_drewN | apply Kd.R_drew)); exact HO186.out, by repeat (first | (with_reducible first | exact HB.out | apply below_alloc | apply pw_below_drewN | apply below_drew1 | refine below_set ?_ GE180.out) | exact HB.out)⟩
              · rw [if_neg c10] at H
                exact absurd H (by simp)
            · rw [if_neg c9] at H
              have c9b0 : (((rd_T47 l0 x6_1).f0.f0) == a1_0 && (((rd_T47 l0 x6_1).f0.f1) == a1_1 && ((((rd_T47 l0 x6_1).f0.f2).toList) == a1_2.toList && (((rd_T47 l0 x6_1).f0.f3) == a1_3)))) = false := by simpa using c9
              (try (have c9b1 : decide (((rd_T47 l0 x6_1).f0.f0) = a1_0 && (((rd_T47 l0 x6_1).f0.f1) == a1_1 && ((((rd_T47 l0 x6_1).f0.f2).toList) == a1_2.toList && (((rd_T47 l0 x6_1).f0.f3) == a1_3)))) = false := by simpa using c9))
              (try (have c9b2 : (((rd_T47 l0 x6_1).f0.f0) == a1_0 && (((rd_T47 l0 x6_1).f0.f1) == a1_1 && ((((rd_T47 l0 x6_1).f0.f2).toList) == a1_2.toList && (((rd_T47 l0 x6_1).f0.f3) == a1_3)))) = false := by simpa using c9))
              (try (have c9b3 : ¬ (((rd_T47 l0 x6_1).f0.f0) = a1_0 && (((rd_T47 l0 x6_1).f0.f1) == a1_1 && ((((rd_T47 l0 x6_1).f0.f2).toList) == a1_2.toList && (((rd_T47 l0 x6_1).f0.f3) == a1_3)))) := by simpa using c9))
              clear c9
              have H' := Aside0.mk H
              clear H
              have p182 : 0 ≤ (x6_1 : Int) := of_decide_eq_true (by first | (with_reducible assumption) | assumption)
              have q182 : x6_1 < (l0.length : Int) := of_decide_eq_true (by first | (with_reducible assumption) | assumption)
              obtain ⟨ad182, A182_4, c182_4, e182, hx182_0, hx182_1, hx182_2, hx182_3, hx182_4, hl182_4, hi182_4⟩ := at_T47 HR0.out x6_1 p182 q182
              cases e182
              replace hx182_0 := (HB.out.cell (World.block_lt_of_cell? w _ hx182_0)).trans hx182_0
              replace hx182_1 := (HB.out.cell (World.block_lt_of_cell? w _ hx182_1)).trans hx182_1
              replace hx182_2 := (HB.out.cell (World.block_lt_of_cell? w _ hx182_2)).trans hx182_2
              replace hx182_3 := (HB.out.cell (World.block_lt_of_cell? w _ hx182_3)).trans hx182_3
              replace hx182_4 := (HB.out.cell (World.block_lt_of_cell? w _ hx182_4)).trans hx182_4
              have HR182_4 := Aside0.mk hi182_4
              have HC182_4 := Aside0.mk hl182_4
              clear hi182_4 hl182_4
              replace p182 := eq_true p182
              replace q182 := eq_true q182
              have hcz13_0 : wr.cell? ⟨gb180, 0, none⟩ = some (.int .i64 a1_0) := (blk_cell BK180.out 0).trans rfl
              have hcz13_1 : wr.cell? ⟨gb180, 1, none⟩ = some (.int .u8 a1_1) := (blk_cell BK180.out 1).trans rfl
              have hcz13_2 : wr.cell? ⟨gb180, 2, none⟩ = some (.string a1_2) := (blk_cell BK180.out 2).trans rfl
              have hcz13_3 : wr.cell? ⟨gb180, 3, none⟩ = some (.int .i64 a1_3) := (blk_cell BK180.out 3).trans rfl
              have hfz13_0 := blk_frozen BK180.out 0
              have hfz13_1 := blk_frozen BK180.out 1
              have hfz13_2 := blk_frozen BK180.out 2
              have hfz13_3 := blk_frozen BK180.out 3
              go_wp2
              repeat (go_quiet (fail); try go_wp2)
              go_roundg k1
              case measure => have := HK1.out; omega
              case rel => exact ⟨(wrap64 (x6_1 + 1)), (by first | rfl | (simp; done) | (simp [*]; done)), H', ⟨by have := HK1.out; omega⟩, ⟨by (with_reducible repeat (first | refine blk_drewN ?_ _ | refine blk_drew ?_ | refine blk_alloc ?_ _)); exact BK180.out⟩, ⟨by repeat (first | (with_reducible first | exact HB.out | apply below_alloc | apply pw_below_drewN | apply below_drew1 | refine below_set ?_ GE180.out) | exact HB.out)⟩⟩
          · rw [if_neg c8] at H
            exact absurd H (by simp)
        · rw [if_neg c7] at H
          have c7b0 : decide (x6_1 < (l0.length : Int)) = false := decide_eq_false c7
          clear c7
          simp only [Option.some.injEq, Prod.mk.injEq] at H
          obtain ⟨rfl, rfl⟩ := H
          go_wp2
          repeat (go_quiet (fail); try go_wp2)
          go_ret2
          exact ⟨_, by first | rfl | (simp [errW_none, errW_some] <;> rfl) | (simp [*, errW_none, errW_some] <;> rfl), by first | exact Kd.R_nil _ _ _ _ _ | exact Kd.N_nil _ _ _ _ _ | exact Kd.V_nil _ _ _ _ _ | exact Kd.Q_nil _ _ _ _ _ | exact Kd.S_nil _ _ _ _ _, by repeat (first | (with_reducible first | exact HB.out | apply below_alloc | apply pw_below_drewN | apply below_drew1 | refine below_set ?_ GE180.out) | exact HB.out)⟩
  · replace c4 := Bool.eq_false_iff.mpr c4
    subst c4
    have H1 : (some (([] : List Int), false)) = some (r1, r2) := by rw [if_neg (show ¬ (false = true) by decide)] at H; exact H
    clear H
    have H := H1
    clear H1
    simp only [Option.some.injEq, Prod.mk.injEq] at H
    obtain ⟨rfl, rfl⟩ := H
    go_enter Try.func22, Try.ntmps22
    go_wp2_with (first | ((with_reducible refine gate_dst (N := 3) rfl ?_); refine box_event ?hg (N := 3) ?hd (cs := #[.int .i64 a1_0, .int .u8 a1_1, .string a1_2, .int .i64 a1_3]) (t := 30) ?hr ?_; (case hd => rfl); (case hg => rfl); (case hr => first | (go_simp; done) | (go_simp; rfl)); intro gb180 hg w14 hbox hb; have n0_ := Aside0.mk (below_step (by repeat (first | (with_reducible first | exact HB.out | apply below_alloc | apply pw_below_drewN | apply below_drew1) | exact HB.out)) hb); have n1_ := Aside0.mk (hbox); have n2_ := Aside0.mk ((by rw [hg]; exact (below_size (by repeat (first | (with_reducible first | exact HB.out | apply below_alloc | apply pw_below_drewN | apply below_drew1) | exact HB.out))) : w.heap.size ≤ gb180)); have n3_ := Aside0.mk ((by rw [hg]; exact (below_size (by repeat (first | (with_reducible first | exact HB.out | apply below_alloc | apply pw_below_drewN | apply below_drew1) | exact HB.out))) : w.heap.size ≤ gb180)); clear HB; have HB := n0_; have BK180 := n1_; have GW180 := n2_; have GE180 := n3_; clear n0_ n1_ n2_ n3_; clear hb hbox hg) | (go_at_call 40; (with_reducible refine (carrackref06_Ordered.calls k _ _ l0 false _ ?side1 ?side2 A3.out).mono ?_); (case side1 => repeat (first | exact (Kd.C_below HR0.out HB.out) | (with_reducible refine Kd.C_alloc ?_ _) | (with_reducible refine Kd.C_drewN ?_ _) | (with_reducible refine Kd.C_drew ?_))); (case side2 => exact HC0.out); rintro e w15 ⟨rfl, hb⟩; have n0_ := Aside0.mk (blk_below (g := gb180) (o := .cells #[.int .i64 a1_0, .int .u8 a1_1, .string a1_2, .int .i64 a1_3] 30 (0, 0)) (by (with_reducible repeat (first | refine blk_drewN ?_ _ | refine blk_drew ?_ | refine blk_alloc ?_ _)); exact BK180.out) hb); have n1_ := Aside0.mk (below_step (by repeat (first | (with_reducible first | exact HB.out | apply below_alloc | apply pw_below_drewN | apply below_drew1 | refine below_set ?_ GE180.out) | exact HB.out)) hb); clear BK180; clear HB; have BK180 := n0_; have HB := n1_; clear n0_ n1_; (try clear hb); (try clear hb2); (try clear hk); (try clear hi)))
    repeat (go_quiet (first | ((with_reducible refine gate_dst (N := 3) rfl ?_); refine box_event ?hg (N := 3) ?hd (cs := #[.int .i64 a1_0, .int .u8 a1_1, .string a1_2, .int .i64 a1_3]) (t := 30) ?hr ?_; (case hd => rfl); (case hg => rfl); (case hr => first | (go_simp; done) | (go_simp; rfl)); intro gb180 hg w14 hbox hb; have n0_ := Aside0.mk (below_step (by repeat (first | (with_reducible first | exact HB.out | apply below_alloc | apply pw_below_drewN | apply below_drew1) | exact HB.out)) hb); have n1_ := Aside0.mk (hbox); have n2_ := Aside0.mk ((by rw [hg]; exact (below_size (by repeat (first | (with_reducible first | exact HB.out | apply below_alloc | apply pw_below_drewN | apply below_drew1) | exact HB.out))) : w.heap.size ≤ gb180)); have n3_ := Aside0.mk ((by rw [hg]; exact (below_size (by repeat (first | (with_reducible first | exact HB.out | apply below_alloc | apply pw_below_drewN | apply below_drew1) | exact HB.out))) : w.heap.size ≤ gb180)); clear HB; have HB := n0_; have BK180 := n1_; have GW180 := n2_; have GE180 := n3_; clear n0_ n1_ n2_ n3_; clear hb hbox hg) | (go_at_call 40; (with_reducible refine (carrackref06_Ordered.calls k _ _ l0 false _ ?side1 ?side2 A3.out).mono ?_); (case side1 => repeat (first | exact (Kd.C_below HR0.out HB.out) | (with_reducible refine Kd.C_alloc ?_ _) | (with_reducible refine Kd.C_drewN ?_ _) | (with_reducible refine Kd.C_drew ?_))); (case side2 => exact HC0.out); rintro e w15 ⟨rfl, hb⟩; have n0_ := Aside0.mk (blk_below (g := gb180) (o := .cells #[.int .i64 a1_0, .int .u8 a1_1, .string a1_2, .int .i64 a1_3] 30 (0, 0)) (by (with_reducible repeat (first | refine blk_drewN ?_ _ | refine blk_drew ?_ | refine blk_alloc ?_ _)); exact BK180.out) hb); have n1_ := Aside0.mk (below_step (by repeat (first | (with_reducible first | exact HB.out | apply below_alloc | apply pw_below_drewN | apply below_drew1 | refine below_set ?_ GE180.out) | exact HB.out)) hb); clear BK180; clear HB; have BK180 := n0_; have HB := n1_; clear n0_ n1_; (try clear hb); (try clear hb2); (try clear hk); (try clear hi))); try go_wp2_with (first | ((with_reducible refine gate_dst (N := 3) rfl ?_); refine box_event ?hg (N := 3) ?hd (cs := #[.int .i64 a1_0, .int .u8 a1_1, .string a1_2, .int .i64 a1_3]) (t := 30) ?hr ?_; (case hd => rfl); (case hg => rfl); (case hr => first | (go_simp; done) | (go_simp; rfl)); intro gb180 hg w14 hbox hb; have n0_ := Aside0.mk (below_step (by repeat (first | (with_reducible first | exact HB.out | apply below_alloc | apply pw_below_drewN | apply below_drew1) | exact HB.out)) hb); have n1_ := Aside0.mk (hbox); have n2_ := Aside0.mk ((by rw [hg]; exact (below_size (by repeat (first | (with_reducible first | exact HB.out | apply below_alloc | apply pw_below_drewN | apply below_drew1) | exact HB.out))) : w.heap.size ≤ gb180)); have n3_ := Aside0.mk ((by rw [hg]; exact (below_size (by repeat (first | (with_reducible first | exact HB.out | apply below_alloc | apply pw_below_drewN | apply below_drew1) | exact HB.out))) : w.heap.size ≤ gb180)); clear HB; have HB := n0_; have BK180 := n1_; have GW180 := n2_; have GE180 := n3_; clear n0_ n1_ n2_ n3_; clear hb hbox hg) | (go_at_call 40; (with_reducible refine (carrackref06_Ordered.calls k _ _ l0 false _ ?side1 ?side2 A3.out).mono ?_); (case side1 => repeat (first | exact (Kd.C_below HR0.out HB.out) | (with_reducible refine Kd.C_alloc ?_ _) | (with_reducible refine Kd.C_drewN ?_ _) | (with_reducible refine Kd.C_drew ?_))); (case side2 => exact HC0.out); rintro e w15 ⟨rfl, hb⟩; have n0_ := Aside0.mk (blk_below (g := gb180) (o := .cells #[.int .i64 a1_0, .int .u8 a1_1, .string a1_2, .int .i64 a1_3] 30 (0, 0)) (by (with_reducible repeat (first | refine blk_drewN ?_ _ | refine blk_drew ?_ | refine blk_alloc ?_ _)); exact BK180.out) hb); have n1_ := Aside0.mk (below_step (by repeat (first | (with_reducible first | exact HB.out | apply below_alloc | apply pw_below_drewN | apply below_drew1 | refine below_set ?_ GE180.out) | exact HB.out)) hb); clear BK180; clear HB; have BK180 := n0_; have HB := n1_; clear n0_ n1_; (try clear hb); (try clear hb2); (try clear hk); (try clear hi))))
    go_ret2
    exact ⟨_, by first | rfl | (simp [errW_none, errW_some] <;> rfl) | (simp [*, errW_none, errW_some] <;> rfl), by first | exact Kd.R_nil _ _ _ _ _ | exact Kd.N_nil _ _ _ _ _ | exact Kd.V_nil _ _ _ _ _ | exact Kd.Q_nil _ _ _ _ _ | exact Kd.S_nil _ _ _ _ _, by repeat (first | (with_reducible first | exact HB.out | apply below_alloc | apply pw_below_drewN | apply below_drew1 | refine below_set ?_ GE180.out) | exact HB.out)⟩

-- NOT PRINTED: function 42 (api_Fact_42)

end Go.Proofs.Ytbhmncenbpdcjaa.P
end
section
/- Printed by a program of this workplace (wip/print/gprint.py, over the kit's print.py): functions of the program as Lean functions, and that the Go text comes to their answers. -/
namespace Go.Proofs.Ytbhmncenbpdcjaa.P
open Go.RowKit Go.Proofs.YtbhmncenbpdcjaaW.PrintWords Go.Proofs.YtbhmncenbpdcjaaW.PrintLast Go.Proofs.YtbhmncenbpdcjaaW.PrintMore
attribute [local go_sem] max2_int min2_int max_two min_two max_three min_three max_four min_four   -- for this text's walks alone
set_option linter.unusedVariables false
set_option linter.unusedSimpArgs false

-- NOT PRINTED: function 4 (carracklaw06_FactFresh)

/-! ### slices_Equal_byte_byte: function 44 -/
def slices_Equal_byte_byte.l0 : Nat → List Int → List Int → Int → Int → Option (Bool)
  | 0, _, _, _, _ => none
  | k + 1, x0, x1, x12, x13 => if x13 < x12 then (if 0 ≤ x13 then (if x13 < (x0.length : Int) then (if x13 < (x1.length : Int) then (if (rd x0 x13) = (rd x1 x13) then (slices_Equal_byte_byte.l0 k x0 x1 x12 (wrap64 (x13 + 1))) else (some false)) else (none)) else (none)) else (none)) else (some true)
def slices_Equal_byte_byte.f (k : Nat) (l0 : List Int) (l1 : List Int) : Option (Bool) := if (l0.length : Int) = (l1.length : Int) then (slices_Equal_byte_byte.l0 k l0 l1 (l0.length : Int) 0) else (some false)
theorem slices_Equal_byte_byte.mono_l : ∀ k, (∀ y0 y1 y2 y3, LeO (slices_Equal_byte_byte.l0 k y0 y1 y2 y3) (slices_Equal_byte_byte.l0 (k + 1) y0 y1 y2 y3))
  | 0 => fun _ _ _ _ r h => by simp [slices_Equal_byte_byte.l0] at h
  | k + 1 => by
    have ih0 := slices_Equal_byte_byte.mono_l k
    · intro y0 y1 y2 y3
      unfold slices_Equal_byte_byte.l0
      repeat' first
      | (with_reducible exact ih0 _ _ _ _)
      | (with_reducible exact LeO.refl _)
      | (with_reducible exact LeO.none _)
      | (with_reducible refine LeO.ite ?_ ?_)
      | (with_reducible refine LeO.bind ?_ (fun _ => ?_))
      | exact ih0 _ _ _ _
      | exact LeO.none _
      | refine LeO.ite ?_ ?_
      | refine LeO.bind ?_ (fun _ => ?_)
theorem slices_Equal_byte_byte.mono : ∀ a0 a1 k, LeO (slices_Equal_byte_byte.f k a0 a1) (slices_Equal_byte_byte.f (k + 1) a0 a1) := by
  intro a0 a1 k
  have ih0 := slices_Equal_byte_byte.mono_l k
  unfold slices_Equal_byte_byte.f
  repeat' first
      | (with_reducible exact ih0 _ _ _ _)
      | (with_reducible exact LeO.refl _)
      | (with_reducible exact LeO.none _)
      | (with_reducible refine LeO.ite ?_ ?_)
      | (with_reducible refine LeO.bind ?_ (fun _ => ?_))
      | exact ih0 _ _ _ _
      | exact LeO.none _
      | refine LeO.ite ?_ ?_
      | refine LeO.bind ?_ (fun _ => ?_)
set_option maxHeartbeats 8000000 in
set_option maxRecDepth 100000 in
theorem slices_Equal_byte_byte.calls (k : Nat) (A0 : Option Addr) (c0 : Nat) (l0 : List Int) (A1 : Option Addr) (c1 : Nat) (l1 : List Int) (r : Bool) (w : World) (hr0 : Kd.C (Kd.int .u8) w A0 l0.length l0) (hc0 : l0.length ≤ c0) (hr1 : Kd.C (Kd.int .u8) w A1 l1.length l1) (hc1 : l1.length ≤ c1) (h : slices_Equal_byte_byte.f k l0 l1 = some r) :
    Calls Try.prog 44 #[.slice A0 l0.length c0, .slice A1 l1.length c1] w fun e w' => e = .returned (.bool r) ∧ Drawn0 w w' := by
  have HR0 := Aside0.mk hr0
  have HC0 := Aside0.mk hc0
  clear hr0 hc0
  have HR1 := Aside0.mk hr1
  have HC1 := Aside0.mk hc1
  clear hr1 hc1
  have H : (if (l0.length : Int) = (l1.length : Int) then (slices_Equal_byte_byte.l0 k l0 l1 (l0.length : Int) 0) else (some false)) = some r := h
  clear h
  by_cases c3 : (l0.length : Int) = (l1.length : Int)
  · rw [if_pos c3] at H
    have c3b0 : ((l0.length : Int) == (l1.length : Int)) = true := beq_iff_eq.mpr c3
    have c3b1 : ((l0.length : Int) != (l1.length : Int)) = false := bne_eq_false_iff_eq.mpr c3
    have c3b2 : (l0.length == l1.length) = true := by first | simpa using c3 | (simp at c3 ⊢; omega)
    clear c3
    have H' := Aside0.mk H
    clear H
    go_enter Try.func44, Try.ntmps44
    go_wp2
    repeat (go_quiet (fail); try go_wp2)
    go_loopg [13] k (fun kq v13 w' => ∃ (x13_1 : Int), v13 = .int .i64 x13_1 ∧ Aside0 (slices_Equal_byte_byte.l0 kq l0 l1 (l0.length : Int) x13_1 = some r) ∧ Aside0 (kq ≤ k) ∧ Drawn0 w w')
    case atStart => exact ⟨(0), (by first | rfl | (simp; done) | (simp [*]; done)), H', ⟨Nat.le_refl _⟩, by repeat (first | exact Drawn0.refl _ | apply Drawn0.step)⟩
    case round =>
      clear H'
      try clear c1
      try clear p2
      try clear c3
      try clear c3b0
      try clear c3b1
      try clear c3b2
      obtain ⟨x13_1, rfl, HA, HK1, ⟨m1, rfl⟩⟩ := hrel
      cases gk with
      | zero => exact absurd HA.out (by simp [slices_Equal_byte_byte.l0])
      | succ k1 =>
        have H := HA.out
        clear HA
        simp only [slices_Equal_byte_byte.l0] at H
        by_cases c4 : x13_1 < (l0.length : Int)
        · rw [if_pos c4] at H
          have c4b0 : decide (x13_1 < (l0.length : Int)) = true := decide_eq_true c4
          clear c4
          by_cases c5 : 0 ≤ x13_1
          · rw [if_pos c5] at H
            have c5b0 : decide (0 ≤ x13_1) = true := decide_eq_true c5
            clear c5
            by_cases c6 : x13_1 < (l0.length : Int)
            · rw [if_pos c6] at H
              have c6b0 : decide (x13_1 < (l0.length : Int)) = true := decide_eq_true c6
              clear c6
              by_cases c7 : x13_1 < (l1.length : Int)
              · rw [if_pos c7] at H
                have c7b0 : decide (x13_1 < (l1.length : Int)) = true := decide_eq_true c7
                clear c7
                by_cases c8 : (rd l0 x13_1) = (rd l1 x13_1)
                · rw [if_pos c8] at H
                  have c8b0 : ((rd l0 x13_1) == (rd l1 x13_1)) = true := beq_iff_eq.mpr c8
                  have c8b1 : ((rd l0 x13_1) != (rd l1 x13_1)) = false := bne_eq_false_iff_eq.mpr c8
                  clear c8
                  have H' := Aside0.mk H
                  clear H
                  have p264 : 0 ≤ (x13_1 : Int) := of_decide_eq_true (by first | (with_reducible assumption) | assumption)
                  have q264 : x13_1 < (l0.length : Int) := of_decide_eq_true (by first | (with_reducible assumption) | assumption)
                  obtain ⟨ad264, e264, hx264_0⟩ := Kd.at_int HR0.out x13_1 p264 q264
                  cases e264
                  replace p264 := eq_true p264
                  replace q264 := eq_true q264
                  have p265 : 0 ≤ (x13_1 : Int) := of_decide_eq_true (by first | (with_reducible assumption) | assumption)
                  have q265 : x13_1 < (l1.length : Int) := of_decide_eq_true (by first | (with_reducible assumption) | assumption)
                  obtain ⟨ad265, e265, hx265_0⟩ := Kd.at_int HR1.out x13_1 p265 q265
                  cases e265
                  replace p265 := eq_true p265
                  replace q265 := eq_true q265
                  go_wp2
                  repeat (go_quiet (fail); try go_wp2)
                  go_roundg k1
                  case measure => have := HK1.out; omega
                  case rel => exact ⟨(wrap64 (x13_1 + 1)), (by first | rfl | (simp; done) | (simp [*]; done)), H', ⟨by have := HK1.out; omega⟩, by repeat (first | exact Drawn0.refl _ | apply Drawn0.step)⟩
                · rw [if_neg c8] at H
                  have c8b0 : ((rd l0 x13_1) == (rd l1 x13_1)) = false := beq_eq_false_iff_ne.mpr c8
                  have c8b1 : ((rd l0 x13_1) != (rd l1 x13_1)) = true := bne_iff_ne.mpr c8
                  obtain rfl := Option.some.inj H
                  have p264 : 0 ≤ (x13_1 : Int) := of_decide_eq_true (by first | (with_reducible assumption) | assumption)
                  have q264 : x13_1 < (l0.length : Int) := of_decide_eq_true (by first | (with_reducible assumption) | assumption)
                  obtain ⟨ad264, e264, hx264_0⟩ := Kd.at_int HR0.out x13_1 p264 q264
                  cases e264
                  replace p264 := eq_true p264
                  replace q264 := eq_true q264
                  have p265 : 0 ≤ (x13_1 : Int) := of_decide_eq_true (by first | (with_reducible assumption) | assumption)
                  have q265 : x13_1 < (l1.length : Int) := of_decide_eq_true (by first | (with_reducible assumption) | assumption)
                  obtain ⟨ad265, e265, hx265_0⟩ := Kd.at_int HR1.out x13_1 p265 q265
                  cases e265
                  replace p265 := eq_true p265
                  replace q265 := eq_true q265
                  go_wp2
                  repeat (go_quiet (fail); try go_wp2)
                  go_ret
                  exact ⟨by first | rfl | (simp; done) | (simp [*]; done), by repeat (first | exact Drawn0.refl _ | apply Drawn0.step)⟩
              · rw [if_neg c7] at H
                exact absurd H (by simp)
            · rw [if_neg c6] at H
              exact absurd H (by simp)
          · rw [if_neg c5] at H
            exact absurd H (by simp)
        · rw [if_neg c4] at H
          have c4b0 : decide (x13_1 < (l0.length : Int)) = false := decide_eq_false c4
          clear c4
          obtain rfl := Option.some.inj H
          go_wp2
          repeat (go_quiet (fail); try go_wp2)
          go_ret
          exact ⟨by first | rfl | (simp; done) | (simp [*]; done), by repeat (first | exact Drawn0.refl _ | apply Drawn0.step)⟩
  · rw [if_neg c3] at H
    have c3b0 : ((l0.length : Int) == (l1.length : Int)) = false := beq_eq_false_iff_ne.mpr c3
    have c3b1 : ((l0.length : Int) != (l1.length : Int)) = true := bne_iff_ne.mpr c3
    have c3b2 : (l0.length == l1.length) = false := by first | simpa using c3 | (simp at c3 ⊢; omega)
    obtain rfl := Option.some.inj H
    go_enter Try.func44, Try.ntmps44
    go_wp2
    repeat (go_quiet (fail); try go_wp2)
    go_ret
    exact ⟨by first | rfl | (simp; done) | (simp [*]; done), by repeat (first | exact Drawn0.refl _ | apply Drawn0.step)⟩

/-- THE ONE PURE STATEMENT of slices_Equal_byte_byte: yours. -/
def slices_Equal_byte_byte.Pure : Prop := ∀ (l0 : List Int) (l1 : List Int), l0.length ≤ maxLen → l0.length * 1 ≤ 140737488351232 → (∀ x ∈ l0, (Lit.int .u8 x).wf = true) → l1.length ≤ maxLen → l1.length * 1 ≤ 140737488351232 → (∀ x ∈ l1, (Lit.int .u8 x).wf = true) → ∃ k, slices_Equal_byte_byte.f k l0 l1 = some true
theorem slices_Equal_byte_byte.walk (P : slices_Equal_byte_byte.Pure) (a0 : Option Addr) (len0 cap0 : Nat) (z0 : List Int) (a1 : Option Addr) (len1 cap1 : Nat) (z1 : List Int) (w : World) (w0 : (a0 = none ∧ len0 = 0 ∧ cap0 = 0 ∧ z0 = []) ∨ ∃ x, a0 = some x ∧ len0 ≤ cap0 ∧ cap0 ≤ maxLen ∧ z0.length = cap0 ∧ (∀ i, i < z0.length → w.cell? (x.add i) = some (.int .u8 (z0.getD i 0))) ∧ ∀ n ∈ z0, (Lit.int .u8 n).wf = true) (y0 : len0 * 1 ≤ 140737488351232) (w1 : (a1 = none ∧ len1 = 0 ∧ cap1 = 0 ∧ z1 = []) ∨ ∃ x, a1 = some x ∧ len1 ≤ cap1 ∧ cap1 ≤ maxLen ∧ z1.length = cap1 ∧ (∀ i, i < z1.length → w.cell? (x.add i) = some (.int .u8 (z1.getD i 0))) ∧ ∀ n ∈ z1, (Lit.int .u8 n).wf = true) (y1 : len1 * 1 ≤ 140737488351232) :
    Calls Try.prog 44 #[.slice a0 len0 cap0, .slice a1 len1 cap1] w fun e w' => e = .returned (.bool true) ∧ Below w.heap.size w w' := by
  obtain ⟨l0, rfl, hr0, hm0, hw0, hc0⟩ := ReadsInt.ofRowC w0
  obtain ⟨l1, rfl, hr1, hm1, hw1, hc1⟩ := ReadsInt.ofRowC w1
  obtain ⟨k, h⟩ := P l0 l1 hm0 y0 hw0 hm1 y1 hw1
  refine (slices_Equal_byte_byte.calls k _ _ l0 _ _ l1 true w (Kd.C_of_reads (d := (0 : Int)) (h1 := fun _ => rfl) hr0) hc0 (Kd.C_of_reads (d := (0 : Int)) (h1 := fun _ => rfl) hr1) hc1 h).mono ?_
  rintro e w' ⟨rfl, hd⟩
  exact ⟨rfl, hd.below⟩

end Go.Proofs.Ytbhmncenbpdcjaa.P
end
section
/- What the comparisons of facts and the document's finding answer, plain. -/
namespace Go.Proofs.Ytbhmncenbpdcjaa.P
open Go.RowKit Go.Proofs.YtbhmncenbpdcjaaW.PrintWords Go.Proofs.YtbhmncenbpdcjaaW.PrintLast Go.Proofs.YtbhmncenbpdcjaaW.PrintMore
set_option linter.unusedSimpArgs false
theorem rd_at (l : List Int) (i : Nat) (h : i < l.length) : rd l (i : Int) = l[i] := by
  unfold rd; simp [List.getD, h]
theorem drop_eq_iff {α : Type} {l0 l1 : List α} {i : Nat} (h0 : i < l0.length) (h1 : i < l1.length) : (l0.drop i = l1.drop i) ↔ l0[i] = l1[i] ∧ l0.drop (i + 1) = l1.drop (i + 1) := by
  rw [List.drop_eq_getElem_cons h0, List.drop_eq_getElem_cons h1, List.cons.injEq]
theorem same_l0 (l0 l1 : List Int) (hl : l0.length = l1.length) (hm : l0.length ≤ 9223372036854775807) : ∀ (d i k : Nat), i + d = l0.length → d < k → carrackref00_Same.l0 k l0 l1 (i : Int) = some (decide (l0.drop i = l1.drop i)) := by
  intro d
  induction d with
  | zero =>
    intro i k hi hk
    obtain ⟨k, rfl⟩ : ∃ m, k = m + 1 := ⟨k - 1, by omega⟩
    unfold carrackref00_Same.l0
    rw [if_neg (by omega), List.drop_of_length_le (by omega), List.drop_of_length_le (by omega)]
    simp
  | succ d ih =>
    intro i k hi hk
    obtain ⟨k, rfl⟩ : ∃ m, k = m + 1 := ⟨k - 1, by omega⟩
    unfold carrackref00_Same.l0
    rw [if_pos (by omega), if_pos (by omega), if_pos (by omega), rd_at l0 i (by omega), rd_at l1 i (by omega)]
    by_cases he : l0[i] = l1[i]
    · rw [if_pos he, wrapS (by omega), ih (i + 1) k (by omega) (by omega)]
      simp [drop_eq_iff (i := i) (l0 := l0) (l1 := l1) (by omega) (by omega), he]
    · rw [if_neg he]
      simp [drop_eq_iff (i := i) (l0 := l0) (l1 := l1) (by omega) (by omega), he]
theorem same_f (l0 l1 : List Int) (hm : l0.length ≤ 9223372036854775807) (k : Nat) (hk : l0.length < k) : carrackref00_Same.f k l0 l1 = some (decide (l0 = l1)) := by
  unfold carrackref00_Same.f
  by_cases hl : l0.length = l1.length
  · rw [if_pos (by omega), show (0 : Int) = ((0 : Nat) : Int) from rfl, same_l0 l0 l1 hl hm l0.length 0 k (by omega) hk]
    simp
  · rw [if_neg (by omega)]
    have : l0 ≠ l1 := fun e => hl (by rw [e])
    simp [this]
theorem equal_l0 (l0 l1 : List Int) (hl : l0.length = l1.length) (hm : l0.length ≤ 9223372036854775807) : ∀ (d i k : Nat), i + d = l0.length → d < k → slices_Equal_byte_byte.l0 k l0 l1 (l0.length : Int) (i : Int) = some (decide (l0.drop i = l1.drop i)) := by
  intro d
  induction d with
  | zero =>
    intro i k hi hk
    obtain ⟨k, rfl⟩ : ∃ m, k = m + 1 := ⟨k - 1, by omega⟩
    unfold slices_Equal_byte_byte.l0
    rw [if_neg (by omega), List.drop_of_length_le (by omega), List.drop_of_length_le (by omega)]
    simp
  | succ d ih =>
    intro i k hi hk
    obtain ⟨k, rfl⟩ : ∃ m, k = m + 1 := ⟨k - 1, by omega⟩
    unfold slices_Equal_byte_byte.l0
    rw [if_pos (by omega), if_pos (by omega), if_pos (by omega), if_pos (by omega), rd_at l0 i (by omega), rd_at l1 i (by omega)]
    by_cases he : l0[i] = l1[i]
    · rw [if_pos he, wrapS (by omega), ih (i + 1) k (by omega) (by omega)]
      simp [drop_eq_iff (i := i) (l0 := l0) (l1 := l1) (by omega) (by omega), he]
    · rw [if_neg he]
      simp [drop_eq_iff (i := i) (l0 := l0) (l1 := l1) (by omega) (by omega), he]
theorem equal_f (l0 l1 : List Int) (hm : l0.length ≤ 9223372036854775807) (k : Nat) (hk : l0.length < k) : slices_Equal_byte_byte.f k l0 l1 = some (decide (l0 = l1)) := by
  unfold slices_Equal_byte_byte.f
  by_cases hl : l0.length = l1.length
  · rw [if_pos (by omega), show (0 : Int) = ((0 : Nat) : Int) from rfl, equal_l0 l0 l1 hl hm l0.length 0 k (by omega) hk]
    simp
  · rw [if_neg (by omega)]
    have : l0 ≠ l1 := fun e => hl (by rw [e])
    simp [this]
/-- Are two facts one? -/
def factQ (x y : F) : Bool := keyQ x.f0 y.f0 && decide (x.f1 = y.f1)
theorem factQ_iff (x y : F) : factQ x y = true ↔ x = y := by
  obtain ⟨x0, x1⟩ := x
  obtain ⟨y0, y1⟩ := y
  unfold factQ
  simp [keyQ_iff]
def factsQ : List F → List F → Bool
  | [], [] => true
  | x :: l, y :: m => factQ x y && factsQ l m
  | _, _ => false
theorem factsQ_iff : ∀ (l m : List F), factsQ l m = true ↔ l = m
  | [], [] => by simp [factsQ]
  | [], _ :: _ => by simp [factsQ]
  | _ :: _, [] => by simp [factsQ]
  | x :: l, y :: m => by simp [factsQ, factQ_iff, factsQ_iff l m]
theorem factsQ_len {l m : List F} (h : l.length ≠ m.length) : factsQ l m = false := by
  cases hq : factsQ l m with
  | false => rfl
  | true => rw [(factsQ_iff l m).1 hq] at h; exact absurd rfl h
theorem facts_l0 (l0 l1 : List F) (hl : l0.length = l1.length) (hm : l0.length ≤ 9223372036854775807) (b : Nat) (hs : ∀ x ∈ l0, x.f1.length < b) (hb : b ≤ 9223372036854775807) : ∀ (d i k : Nat), i + d = l0.length → d + b < k → carrackref00_Facts.l0 k l0 l1 (i : Int) = some (factsQ (l0.drop i) (l1.drop i)) := by
  intro d
  induction d with
  | zero =>
    intro i k hi hk
    obtain ⟨k, rfl⟩ : ∃ m, k = m + 1 := ⟨k - 1, by omega⟩
    unfold carrackref00_Facts.l0
    rw [if_neg (by omega), List.drop_of_length_le (by omega), List.drop_of_length_le (by omega)]
    rfl
  | succ d ih =>
    intro i k hi hk
    obtain ⟨k, rfl⟩ : ∃ m, k = m + 1 := ⟨k - 1, by omega⟩
    have h0 : i < l0.length := by omega
    have h1 : i < l1.length := by omega
    unfold carrackref00_Facts.l0
    rw [if_pos (by omega), if_pos (by omega), if_pos (by omega), rd_nat l0 i h0, rd_nat l1 i h1]
    rw [List.drop_eq_getElem_cons h0, List.drop_eq_getElem_cons h1]
    simp only [factsQ]
    have hx := hs _ (List.getElem_mem h0)
    have hkq : (!(l0[i].f0.f0 == l1[i].f0.f0) || (!(l0[i].f0.f1 == l1[i].f0.f1) || (!(l0[i].f0.f2.toList == l1[i].f0.f2.toList) || !(l0[i].f0.f3 == l1[i].f0.f3)))) = !(keyQ l0[i].f0 l1[i].f0) := by
      unfold keyQ
      simp only [Bool.not_and]
    rw [hkq]
    unfold factQ
    cases hq : keyQ l0[i].f0 l1[i].f0 with
    | false => rfl
    | true =>
      rw [if_neg (by simp), same_f _ _ (by omega) k (by omega), Option.bind_some, wrapS (by omega), ih (i + 1) k (by omega) (by omega)]
      by_cases he : l0[i].f1 = l1[i].f1
      · simp [he]
      · simp [he]
theorem facts_f (l0 l1 : List F) (hm : l0.length ≤ 9223372036854775807) (b : Nat) (hs : ∀ x ∈ l0, x.f1.length < b) (hb : b ≤ 9223372036854775807) (k : Nat) (hk : l0.length + b < k) : carrackref00_Facts.f k l0 l1 = some (factsQ l0 l1) := by
  unfold carrackref00_Facts.f
  by_cases hl : l0.length = l1.length
  · rw [if_pos (by omega), show (0 : Int) = ((0 : Nat) : Int) from rfl, facts_l0 l0 l1 hl hm b hs hb l0.length 0 k (by omega) hk]
    simp
  · rw [if_neg (by omega), factsQ_len hl]
/-- The first fact of a key, as the document looks for it. -/
def refFind (k : K) : List F → List Int × Bool
  | [] => ([], false)
  | x :: l => if keyQ x.f0 k then (x.f1, true) else refFind k l
theorem refFind_l0 (l : List F) (q : K) (hm : l.length ≤ 9223372036854775807) (hs : ∀ x ∈ l, x.f1.length < 140737488355328) : ∀ (d i k : Nat), i + d = l.length → d < k → carrackref06_Find.l0 k l (i : Int) q.f0 q.f1 q.f2 q.f3 = some (refFind q (l.drop i)) := by
  intro d
  induction d with
  | zero =>
    intro i k hi hk
    obtain ⟨k, rfl⟩ : ∃ m, k = m + 1 := ⟨k - 1, by omega⟩
    unfold carrackref06_Find.l0
    rw [if_neg (by omega), List.drop_of_length_le (by omega)]
    rfl
  | succ d ih =>
    intro i k hi hk
    obtain ⟨k, rfl⟩ : ∃ m, k = m + 1 := ⟨k - 1, by omega⟩
    have h0 : i < l.length := by omega
    unfold carrackref06_Find.l0
    rw [if_pos (by omega), if_pos (by omega), rd_nat l i h0, List.drop_eq_getElem_cons h0]
    simp only [refFind]
    have hkq : (l[i].f0.f0 == q.f0 && (l[i].f0.f1 == q.f1 && (l[i].f0.f2.toList == q.f2.toList && l[i].f0.f3 == q.f3))) = keyQ l[i].f0 q := rfl
    rw [hkq]
    cases hq : keyQ l[i].f0 q with
    | true =>
      rw [if_pos rfl, if_pos (by have := hs _ (List.getElem_mem h0); simp; omega)]
      simp
    | false =>
      rw [if_neg (by simp), wrapS (by omega), ih (i + 1) k (by omega) (by omega)]
      simp
theorem refFind_f (l : List F) (q : K) (hm : l.length ≤ 9223372036854775807) (hn : ∀ x ∈ l, x.f0.f2.size ≤ maxLen) (hs : ∀ x ∈ l, x.f1.length < 140737488355328) (k : Nat) (hk : l.length < k) : carrackref06_Find.f k l q.f0 q.f1 q.f2 q.f3 = some (if ordB l then refFind q l else ([], false)) := by
  unfold carrackref06_Find.f
  rw [refOrdered_f l hm hn k hk, Option.bind_some]
  cases ho : ordB l with
  | false => rfl
  | true =>
    rw [if_pos rfl, show (0 : Int) = ((0 : Nat) : Int) from rfl, refFind_l0 l q hm hs l.length 0 k (by omega) hk]
    rfl
end Go.Proofs.Ytbhmncenbpdcjaa.P
end
section
/- slices.Clone of bytes: its contract. -/
namespace Go.Proofs.Ytbhmncenbpdcjaa.P
open Go.RowKit Go.Proofs.YtbhmncenbpdcjaaW.PrintWords Go.Proofs.YtbhmncenbpdcjaaW.PrintLast Go.Proofs.YtbhmncenbpdcjaaW.PrintMore
set_option linter.unusedVariables false
set_option linter.unusedSimpArgs false
set_option maxHeartbeats 4000000 in
set_option maxRecDepth 100000 in
theorem clone_any (A0 : Option Addr) (c0 : Nat) (l0 : List Int) (w : World) (hr0 : Kd.C (Kd.int .u8) w A0 l0.length l0) (hc0 : l0.length ≤ c0) (hsz : l0.length < 140737488355328) :
    Calls Try.prog 37 #[.slice A0 l0.length c0] w fun e w' => ∃ v : Value, e = .returned v ∧ Kd.R (Kd.int .u8) 5 w' w.heap.size (fun _ => True) v l0 ∧ Below w.heap.size w w' := by
  have q22 : ∀ (w : World) (a : Option Addr) (n c n' c' : Nat), (binOp .eql 22 (.slice a n c) (.slice none n' c')).run Try.prog w = .ok (.bool a.isNone) w := fun w a n c n' c' => Lib.run_eql_slice_nil w _ _ a n c n' c' Try.underlying22
  cases A0 with
  | none =>
    have hl : l0 = [] := by
      rcases Nat.eq_zero_or_pos l0.length with h0 | h0
      · exact List.eq_nil_of_length_eq_zero h0
      · obtain ⟨ad, e, _⟩ := hr0.2.2 h0
        cases e
    subst hl
    clear hr0
    go_enter Try.func37, Try.ntmps37
    go_wp2
    go_ret
    exact ⟨_, rfl, Kd.R_nil _ _ _ _ _, Below.refl _ _⟩
  | some ad =>
    have HR0 := Aside0.mk hr0
    have HC0 := Aside0.mk hc0
    clear hr0 hc0
    have HB := Aside0.mk (Below.refl w.heap.size w)
    have LMc2 := Aside0.mk hsz
    clear hsz
    go_enter Try.func37, Try.ntmps37
    go_wp2_with ((with_reducible refine gate_builtin (b := .append) (xs := #[.tmp 5, .tmp 6]) rfl ?_); at_builtin; refine Kd.R_append_rows (Kd.int .u8) (w0 := w) w.heap.size rfl (.tmp 5) (.tmp 6) 22 5 (.int .u8 0) 1 rfl Try.underlying22 info5 rfl (by decide) (by omega) (.slice (some ⟨w.heap.size, 0, none⟩) 0 0) ([] : List Int) l0 _ _ _ (fun _ => True) (fun _ => False) rfl rfl ?aO ?aR (fun _ _ h => h) (fun _ h => h.elim) ?aF ?aB ?aS ?aL ?_; (case aR => exact Kd.C_alloc HR0.out _); (case aB => exact below_alloc HB.out _); (case aF => exact (fun _ _ => trivial)); (case aO => exact Kd.R_of_own (World.ownsRow_made w #[] 0 (Nat.le_refl _) (Nat.zero_le _) rfl) (fun _ _ => trivial)); (case aS => simp); (case aL => have := LMc2.out; simp; omega); intro v222 w3 ho hb hg hat; rw [List.nil_append] at ho; have n0_ := Aside0.mk (hb); have n1_ := Aside0.mk (ho); clear HB; have HB := n0_; have HO223 := n1_; clear n0_ n1_; clear ho hb hg hat)
    go_ret
    exact ⟨_, rfl, HO223.out, HB.out⟩
end Go.Proofs.Ytbhmncenbpdcjaa.P
end
section
/- A loop over an iterator that hands over memory of its own making: what the iterator says of the world at its call of yield (G) comes to the round; what it says at its end (S) may name the world. The round goes on always. Of no program. -/
namespace Go.Proofs.Ytbhmncenbpdcjaa
open Go Go.RowKit
variable {F : Fence} {n : Nat} {P : Program}

/-- What the iterator owes. -/
def Iter {α : Type} (F : Fence) (n : Nat) (P : Program) (gf : Nat) (lb : Array Value) (encs : α → Array Value) (G : List α → α → World → Prop) (Kp : World → World → Prop) (S : List α → World → Prop) (w : World) : Prop :=
  ∀ (l : Nat) (J : List α → World → Prop) (W : World), Below w.heap.size w W → AbidesFrom W.heap.size J →
    (∀ pre x W1, J pre W1 → G pre x W1 → YieldAt F (n - 1) P l (encs x) W1 fun e W' => e = .returned (.bool true) ∧ J (pre ++ [x]) W' ∧ Kp W1 W') → J [] W →
    CallsIn F n P gf (#[.func (.yield l) #[] #[]] ++ lb) W fun e W' => (∃ v, e = .returned v) ∧ ∃ xs, S xs W' ∧ J xs W'

/-- What a round that goes on owes. -/
def goesOn {α : Type} (B : Nat) (Kp : World → World → Prop) (I : List α → World → Prop) (xs : List α) (W : World) : Exit → Act → World → Prop
  | .normal, _, W' => KeepsFrom B W W' ∧ Kp W W' ∧ I xs W'
  | _, _, _ => False

theorem wpIn_rangeFunc_given {α : Type} {g : Operand} {ps : Array Tmp} {assign body : Code} {Q : Exit → Act → World → Prop} {a : Act} {w : World}
    (hro : F.round = none) (h1 : 1 ≤ n) {gf : Nat} {lb : Array Value} (hg : a.eval g = .func (.func gf) #[] lb) (hFg : F.fn gf) (eg : ∀ args w, (callFunc gf args).run P w = .ok (.enter gf args) w)
    {encs : α → Array Value} {G : List α → α → World → Prop} {Kp : World → World → Prop} {S : List α → World → Prop} (iter : Iter F (n - 1) P gf lb encs G Kp S w)
    (hKt : ∀ {A B C : World}, Kp A B → Kp B C → Kp A C) (hKb : ∀ (W : World) (l : Nat) (o o' : Obj), w.heap.size ≤ l → W.heap[l]? = some o → o.isCells = false → Kp W (W.putObj l o')) (hps : ∀ x, (encs x).size = ps.size)
    (I : List α → World → Prop) (hI : OwnFrom w.heap.size I) (hS : OwnFrom w.heap.size S) (h0 : I [] w) (Ax : List α → α → Act → World → Prop) (hAx : ∀ pre x a', OwnFrom w.heap.size (fun (_ : Unit) W => Ax pre x a' W))
    (hassign : ∀ (l : Nat) (pre : List α) (x : α) (W : World) (K : Act → World → Prop), I pre W → G pre x W → (∀ a' W', KeepsFrom w.heap.size W W' → Kp W W' → I pre W' → Ax pre x a' W' → K a' W') →
      assign.wpIn (F.inRound l) (n - 1 - 1) P (Exit.then K (fun _ _ _ => False)) { tmps := (ps.zip (encs x)).foldl (fun t (p, v) => t.setIfInBounds p v) a.tmps, defers := [] } W)
    (hbody : ∀ (l : Nat) (pre : List α) (x : α) (a' : Act) (W : World), I pre W → Ax pre x a' W → body.wpIn (F.inRound l) (n - 1 - 1) P (goesOn w.heap.size Kp I (pre ++ [x]) W) a' W)
    (hdone : ∀ (D : Nat) (xs : List α) (W : World), w.heap.size ≤ D → S xs W → I xs W → W.heap[D]? = some (.deferred (some [])) → Q .normal { a with defers := { target := .collected D, args := #[] } :: a.defers } W) :
    (Code.rangeFunc g ps assign body).wpIn F n P Q a w := by
  refine wpIn_rangeFunc fun fn hfn => ?_
  rw [hro]
  obtain ⟨B, hB⟩ : ∃ B, B = w.heap.size := ⟨_, rfl⟩
  -- the loop's record, by its state
  obtain ⟨rec, hrec⟩ : ∃ rec : LoopState → Loop, rec = fun st => { state := st, pending := none, fn, tmps := a.tmps, params := ps, assign, body, defers := B } := ⟨_, rfl⟩
  have hst : ∀ st st', { rec st with state := st' } = rec st' := fun st st' => by rw [hrec]
  have hpe : ∀ st, (rec st).pending = none := fun st => by rw [hrec]
  have hss : ∀ st, (rec st).state = st := fun st => by rw [hrec]
  -- how the world stands where the rounds begin
  obtain ⟨W1, hW1⟩ : ∃ W1, W1 = (w.alloc (.deferred (some []))).alloc (.loop (rec .ready)) := ⟨_, rfl⟩
  let Rd : LoopState → World → Prop := fun st W => W.heap[B + 1]? = some (.loop (rec st)) ∧ W.heap[B]? = some (.deferred (some []))
  have hR1 : Rd .ready W1 := by
    subst hB
    refine ⟨?_, ?_⟩
    · rw [hW1]; have := World.alloc_heap_new (w.alloc (.deferred (some []))) (.loop (rec .ready)); rwa [World.size_alloc] at this
    · rw [hW1]; exact (Below.heap_alloc _ _ _ (by simp)).trans (World.alloc_heap_new w _)
  have hI1 : I [] W1 := by rw [hW1]; exact hI.alloc _ (hI.alloc _ h0)
  have hb1 : Below w.heap.size w W1 := by rw [hW1]; exact ((Below.refl _ w).alloc (Nat.le_refl _) _).alloc (by simp) _
  have hs1 : B + 2 = W1.heap.size := by rw [hW1, hB]; simp
  -- a turn of the record
  have turn : ∀ {st : LoopState} (st' : LoopState) {W : World}, Rd st W → Rd st' (W.putObj (B + 1) (.loop (rec st'))) := fun st' W hr =>
    ⟨World.putObj_heap_same (Array.getElem?_eq_some_iff.1 hr.1).1, (World.putObj_heap_other (by omega)).trans hr.2⟩
  have keepR : ∀ {st : LoopState} {W W' : World}, Rd st W → KeepsFrom w.heap.size W W' → Rd st W' := fun hr hk => ⟨hk.same _ _ (by omega) hr.1 rfl, hk.same _ _ (by omega) hr.2 rfl⟩
  have turnI : ∀ {st : LoopState} (st' : LoopState) {W : World} {xs : List α}, Rd st W → I xs W → I xs (W.putObj (B + 1) (.loop (rec st'))) := fun st' W xs hr hi => hI.putObj _ hi (by omega) hr.1 rfl
  have turnK : ∀ {st : LoopState} (st' : LoopState) {W : World}, Rd st W → Kp W (W.putObj (B + 1) (.loop (rec st'))) := fun st' W hr => hKb _ _ _ _ (by omega) hr.1 rfl
  refine ⟨B + 1, [{ target := .collected B, args := #[] }], W1, { target := .fn (.func gf) lb, args := #[.func (.yield (B + 1)) #[] #[]] }, W1, gf, #[.func (.yield (B + 1)) #[] #[]] ++ lb, W1, ?_, ?_, ?_, ?_, fun _ => h1, ?_⟩
  · rw [hW1, hrec, hB]; exact run_enterLoop_outer _ _ _ _ _
  · simp only [resolve, hg]
    simp [go_sem]
  · intro f' hf'
    simp [Target.leads] at hf'
    subst hf'
    exact hFg
  · simp [invoke, go_sem, eg]
  refine (iter (B + 1) (fun xs W => I xs W ∧ Rd .ready W) W1 hb1 ?_ ?_ ⟨hI1, hR1⟩).mono ?_
  · -- the invariant abides the iterator's own doings
    rintro xs X Y row ⟨hi, hr⟩ hg' hrow
    have hnc : ∀ r, row = some r → w.heap.size ≤ r ∧ ∃ o : Obj, X.heap[r]? = some o ∧ o.isCells = false := fun r e => by
      obtain ⟨hle, o, ho, hw⟩ := hrow r e
      exact ⟨by omega, o, ho, Obj.not_cells_of_walk hw⟩
    exact ⟨hI xs X Y row hi hg' hnc, (grownBy_keeps hg' (fun r e => (hrow r e).2) hr.1 rfl).trans hr.1, (grownBy_keeps hg' (fun r e => (hrow r e).2) hr.2 rfl).trans hr.2⟩
  · -- one round
    rintro pre x W ⟨hi, hr⟩ hgx
    have hy := run_yield (P := P) (args := encs x) hr.1 (by rw [hrec]; exact hps x)
    rw [hrec] at hy
    refine ⟨fn, _, assign, body, hy, roundIn_of_wpIn hfn (hassign _ pre x W _ hi hgx fun a' W2 hk2 hp2 hi2 hax => ?_)⟩
    have hr2 := keepR hr hk2
    refine ⟨_, run_beginRound hr2.1 (hss _), ?_⟩
    rw [hst]
    have hr3 := turn .busy hr2
    refine wpIn_mono (hbody _ pre x a' _ (turnI .busy hr2 hi2) ((hAx pre x a').putObj (s := ()) _ hax (by omega) hr2.1 rfl)) ?_
    rintro e a3 W3 hp
    cases e with
    | normal =>
      obtain ⟨hk3, hp3, hi3⟩ := hp
      have hr4 := keepR hr3 hk3
      have he := run_endRound (P := P) none hr4.1
      have e5 : ({ rec .busy with state := .ready, pending := none } : Loop) = rec .ready := by rw [hrec]
      simp only [Option.isNone_none, if_true, e5] at he
      exact ⟨_, _, he, rfl, ⟨turnI .ready hr4 hi3, turn .ready hr4⟩, hKt hp2 (hKt (turnK .busy hr2) (hKt hp3 (turnK .ready hr4)))⟩
    | ret => exact hp.elim
    | exit id => exact hp.elim
    | goto t => exact hp.elim
    | panic ch => exact hp.elim
    | outgrown => exact hp.elim
  · -- behind the iterator
    rintro e W2 ⟨⟨v, rfl⟩, xs, hs, hi, hr⟩
    have he : (Instr.endLoop (B + 1)).run P W2 = .ok none (W2.putObj (B + 1) (.loop (rec .exhausted))) := by
      have h := run_endLoop (P := P) hr.1 (by rw [hss]; simp)
      rw [hrec] at h ⊢
      exact h
    have := hdone B xs _ (by omega) (hS.putObj (.loop (rec .exhausted)) hs (by omega) hr.1 rfl) (turnI .exhausted hr hi) (turn .exhausted hr).2
    exact ⟨none, _, he, this⟩
end Go.Proofs.Ytbhmncenbpdcjaa
end
section
/- fact.own: facts one by one, each with a copy of its value: what its iterator owes. -/
namespace Go.Proofs.Ytbhmncenbpdcjaa.P
open Go Go.Shelf Go.RowKit Go.Proofs.YtbhmncenbpdcjaaW.PrintWords Go.Proofs.YtbhmncenbpdcjaaW.PrintLast Go.Proofs.YtbhmncenbpdcjaaW.PrintMore
set_option linter.unusedVariables false
set_option linter.unusedSimpArgs false
attribute [local go_sem] Oper.semAt_some

/-- What a round leaves: all that lay below n₀, and every block of bytes. -/
def KpB (n₀ : Nat) (W W' : World) : Prop := Below n₀ W W' ∧ ∀ (k : Nat) (cells : Array Value), W.heap[k]? = some (Obj.cells cells 5 (0, 0)) → W'.heap[k]? = some (Obj.cells cells 5 (0, 0))
theorem KpB.trans {n₀ : Nat} {A B C : World} (h : KpB n₀ A B) (k : KpB n₀ B C) : KpB n₀ A C := ⟨h.1.trans k.1, fun i c hi => k.2 i c (h.2 i c hi)⟩
theorem KpB.turn {n₀ : Nat} (W : World) (l : Nat) (o o' : Obj) (hl : n₀ ≤ l) (h : W.heap[l]? = some o) (ho : o.isCells = false) : KpB n₀ W (W.putObj l o') :=
  ⟨(Below.refl n₀ W).grown (grownBy_putObj' W l o') (by have := (Array.getElem?_eq_some_iff.1 h).1; omega) (fun k e => by cases e; omega), fun k cells hk => by
    have hne : k ≠ l := fun e => by subst e; rw [h] at hk; injection hk with hk; rw [hk] at ho; cases ho
    exact (World.putObj_heap_other hne).trans hk⟩
/-- A row of bytes, where every block of bytes is kept. -/
theorem R8_keep {W W' : World} {b : Nat} {v : Value} {xs : List Int} (h : Kd.R (Kd.int .u8) 5 W b (fun _ => True) v xs) (hk : ∀ (k : Nat) (cells : Array Value), W.heap[k]? = some (Obj.cells cells 5 (0, 0)) → W'.heap[k]? = some (Obj.cells cells 5 (0, 0))) : Kd.R (Kd.int .u8) 5 W' b (fun _ => True) v xs := by
  refine Kd.R_mono (Kd.R_move (Kd.R_bound h) fun k ⟨_, _, _, q, hq, cells, hc⟩ => ?_) (fun _ _ => trivial)
  have : q = 5 := by simpa [Kd.int, Kd.scalar] using hq
  subst this
  exact (hk k cells hc).trans hc.symm
abbrev Own := S47 × Value
def encF (p : Own) : Value := .agg #[.int .i64 p.1.f0.f0, .int .u8 p.1.f0.f1, .string p.1.f0.f2, .int .i64 p.1.f0.f3, p.2]
def OwnG (n₀ : Nat) (p : Own) (W : World) : Prop := Kd.R (Kd.int .u8) 5 W n₀ (fun _ => True) p.2 p.1.f1
def OwnS (n₀ : Nat) (l : List S47) (ps : List Own) (W : World) : Prop := ps.map Prod.fst = l ∧ ∀ p ∈ ps, OwnG n₀ p W
theorem ownS_from (n₀ B : Nat) (l : List S47) : OwnFrom B (OwnS n₀ l) := fun ps W W' row hs hg hr =>
  ⟨hs.1, fun p hp => R8_keep (hs.2 p hp) fun k cells hk => (hg.block k (Array.getElem?_eq_some_iff.1 hk).1 fun e => by
    obtain ⟨_, o, ho, hc⟩ := hr k e.symm
    rw [hk] at ho; injection ho with ho; subst ho; cases hc).trans hk⟩

set_option maxRecDepth 100000 in
set_option maxHeartbeats 2000000 in
theorem own_iter (n : Nat) (ba n₀ : Nat) (A : Option Addr) (c : Nat) (l : List S47) (hsz : ∀ x ∈ l, x.f1.length < 140737488355328) (w : World) (hw : n₀ ≤ w.heap.size) (ha : w.cell? ⟨ba, 0, none⟩ = some (.slice A l.length c)) (hr : Kd.C k47 w A l.length l)
    (hlow : ∀ W, Below n₀ w W → Kd.C k47 W A l.length l) :
    Iter Fence.wide n Try.prog 53 #[.pointer (some ⟨ba, 0, none⟩)] (fun p => #[encF p]) (fun pre p W => pre.length < l.length ∧ OwnG n₀ p W) (KpB n₀) (OwnS n₀ l) w := by
  intro id J W hbw hJ hY h0
  refine callsIn_of_wp Try.func53 rfl trivial ?_ rfl
  simp only [Try.ntmps53, List.size_toArray, List.length_cons, List.length_nil, Nat.reduceAdd, Nat.reduceSub, Array.replicate_succ, Array.replicate_zero, List.push_toArray, List.append_toArray, List.nil_append, List.cons_append]
  have hba' : W.cell? ⟨ba, 0, none⟩ = some (.slice A l.length c) := cell_below hbw ha
  gi_wp2
  gi_loopw [7] (fun i wr => ∃ (k : Nat) (ps : List Own), k ≤ l.length ∧ i = .int .i64 k ∧ J ps wr ∧ KpB n₀ W wr ∧ ps.map Prod.fst = l.take k ∧ (∀ p ∈ ps, OwnG n₀ p wr))
    (fun i _ => l.length - (intOf i).toNat)
  case atStart => exact ⟨0, [], Nat.zero_le _, rfl, h0, ⟨Below.refl _ _, fun _ _ h => h⟩, rfl, fun _ h => absurd h (by simp)⟩
  case round =>
    obtain ⟨k, ps, hk, rfl, hJs, hkp, hps, hgs⟩ := hrel
    by_cases hlt : k < l.length
    · have hlo : Below n₀ w wr := (hbw.mono hw).trans hkp.1
      obtain ⟨ad, A4, c4, hA, h0, h1, h2, h3, h4, h5, h6⟩ := at_T47 (hlow wr hlo) (k : Nat) (by omega) (by omega)
      subst hA
      simp only [Int.toNat_natCast] at h0 h1 h2 h3 h4
      generalize hy : rd_T47 l (k : Nat) = y at *
      have c1 : (k : Int) < (l.length : Int) := by omega
      have hym : y.f1.length < 140737488355328 := hsz y (by rw [← hy, rd_nat l k hlt]; exact List.getElem_mem _)
      have HJ := Lib.hid (fun (W' : World) (hb : Below wr.heap.size wr W') => hJ ps wr W' none hJs ⟨hb.os, hb.tape, hb.output, hb.size, fun k hk _ => hb.block k hk⟩ (fun r e => by cases e))
      have HY := Lib.hid (fun (v : Value) (W' : World) (h1 : J ps W') (h2 : OwnG n₀ (y, v) W') => hY ps (y, v) W' h1 ⟨(by have := congrArg List.length hps; rw [List.length_map, List.length_take] at this; omega), h2⟩)
      have HS := Lib.hid hym
      have HA := Lib.hid (And.intro h5 h6)
      have HW := Lib.hid (Nat.le_trans hw (Nat.le_trans hbw.size (Nat.le_trans hkp.1.size (Nat.le_refl _))))
      have HN := Lib.hid (Nat.le_trans hw (Nat.le_trans hbw.size hkp.1.size))
      obtain ⟨WB, hWB⟩ : ∃ WB, WB = (wr.alloc (Obj.cells #[Value.int IntKind.i64 y.f0.f0, Value.int IntKind.u8 y.f0.f1, Value.string y.f0.f2, Value.int IntKind.i64 y.f0.f3, Value.slice A4 y.f1.length c4] 47)).drew := ⟨_, rfl⟩
      have hBX : Below wr.heap.size wr WB := by rw [hWB]; exact ((Below.refl _ _).alloc (Nat.le_refl _) _).drew
      have hB0 : WB.cell? ⟨wr.heap.size, 0, none⟩ = some (.int .i64 y.f0.f0) := by rw [hWB]; go_simp
      have hB1 : WB.cell? ⟨wr.heap.size, 1, none⟩ = some (.int .u8 y.f0.f1) := by rw [hWB]; go_simp
      have hB2 : WB.cell? ⟨wr.heap.size, 2, none⟩ = some (.string y.f0.f2) := by rw [hWB]; go_simp
      have hB3 : WB.cell? ⟨wr.heap.size, 3, none⟩ = some (.int .i64 y.f0.f3) := by rw [hWB]; go_simp
      have hB4 : WB.cell? ⟨wr.heap.size, 4, none⟩ = some (.slice A4 y.f1.length c4) := by rw [hWB]; go_simp
      have HX : Hid (∀ W', Below WB.heap.size WB W' → W'.cell? ⟨wr.heap.size, 0, none⟩ = some (.int .i64 y.f0.f0) ∧ W'.cell? ⟨wr.heap.size, 1, none⟩ = some (.int .u8 y.f0.f1) ∧ W'.cell? ⟨wr.heap.size, 2, none⟩ = some (.string y.f0.f2) ∧ W'.cell? ⟨wr.heap.size, 3, none⟩ = some (.int .i64 y.f0.f3) ∧ W'.cell? ⟨wr.heap.size, 4, none⟩ = some (.slice A4 y.f1.length c4) ∧ Below wr.heap.size wr W') := Lib.hid fun W' hb => ⟨cell_below hb hB0, cell_below hb hB1, cell_below hb hB2, cell_below hb hB3, cell_below hb hB4, hBX.trans (hb.mono hBX.size)⟩
      have HC : Hid (Calls Try.prog 37 #[.slice A4 y.f1.length c4] (wr.alloc (Obj.cells #[Value.int IntKind.i64 y.f0.f0, Value.int IntKind.u8 y.f0.f1, Value.string y.f0.f2, Value.int IntKind.i64 y.f0.f3, Value.slice A4 y.f1.length c4] 47)).drew fun e w' => ∃ (A1 : Option Addr) (c1 : Nat), e = .returned (.slice A1 y.f1.length c1) ∧ (J ps w' ∧ OwnG n₀ (y, .slice A1 y.f1.length c1) w' ∧ Below WB.heap.size WB w')) := Lib.hid (by
        rw [← hWB]
        refine (clone_any A4 c4 y.f1 WB (Kd.C_below h6 hBX) h5 hym).mono ?_
        rintro e w' ⟨v, rfl, hR, hB⟩
        obtain ⟨A1, c1, rfl⟩ := Kd.R_slice hR
        exact ⟨A1, c1, rfl, HJ.out w' (hBX.trans (hB.mono hBX.size)), Kd.R_lower hR (Nat.le_trans HN.out hBX.size), hB⟩)
      have HP := Lib.hid (And.intro hps (And.intro hgs hkp))
      have HL := Lib.hid (And.intro hlt (And.intro hy (Kd.C_below hr hbw).2.1))
      clear hJ hY hym h5 h6 hgs hps hkp hlo hba' hsz hlow hr ha hB0 hB1 hB2 hB3 hB4 hBX hWB
      gi_wp2
      gi_region_with (first | (refine ⟨trivial, fun h => absurd h (by decide), callsIn_wide.2 ?_⟩; refine HC.out.mono ?_; rintro e w' ⟨A1, c1', rfl, hj, hg, hb⟩; obtain ⟨b0, b1, b2, b3, b4, hb5⟩ := HX.out w' hb; obtain ⟨fn, tmps, assign, body, hy1, hR1⟩ := HY.out _ w' hj hg; dsimp only [encF] at hy1; have HV1 := Lib.hid (And.intro hg hb5); have HR1 := Lib.hid hR1; clear hR1; clear hj hg hb hb5) | (refine ⟨fun h => absurd h (by decide), HR1.out.mono ?_⟩; rintro e W3 ⟨rfl, hJ3, hK3⟩; have HJ3 := Lib.hid hJ3; have HK3 := Lib.hid hK3; clear hJ3 hK3) | (trace_state; fail))
      all_goals gi_wp2
      all_goals
        obtain ⟨hps, hgs, hkp⟩ := HP.out
        obtain ⟨hlt, hy, hl63⟩ := HL.out
        have hb5 := HV1.out.2
        have hk5 : KpB n₀ wr w' := ⟨hb5.mono HN.out, fun i cells hi => (hb5.block i (Array.getElem?_eq_some_iff.1 hi).1).trans hi⟩
        have hk6 := hk5.trans HK3.out
        have hwr : wrap64 ((k : Int) + 1) = (k : Int) + 1 := by unfold wrap64; omega
        rw [hwr]
        refine ⟨⟨k + 1, _, by omega, by simp, HJ3.out, hkp.trans hk6, ?_, ?_⟩, by simp [intOf]; omega⟩
        · rw [List.map_append, hps, List.take_add_one, List.getElem?_eq_getElem hlt]
          simp only [List.map_cons, List.map_nil, Option.toList]
          rw [← hy, rd_nat l k hlt]
        · intro p hp
          rcases List.mem_append.1 hp with hp | hp
          · exact R8_keep (hgs p hp) hk6.2
          · have e : p = (y, Value.slice A1 y.f1.length c1') := by simpa using hp
            rw [e]
            exact R8_keep HV1.out.1 HK3.out.2
    · obtain rfl : k = l.length := by omega
      gi_wp2
      go_end0
      exact ⟨⟨_, rfl⟩, ps, ⟨by rw [hps, List.take_length], hgs⟩, hJs⟩
end Go.Proofs.Ytbhmncenbpdcjaa.P
end
section
/- fact.Apply: the region that lays a change's fact. -/
namespace Go.Proofs.Ytbhmncenbpdcjaa.P
open Go Go.Shelf Go.RowKit Go.Proofs.YtbhmncenbpdcjaaW.PrintWords Go.Proofs.YtbhmncenbpdcjaaW.PrintLast Go.Proofs.YtbhmncenbpdcjaaW.PrintMore
set_option linter.unusedVariables false
set_option linter.unusedSimpArgs false
attribute [local go_sem] Oper.semAt_some
attribute [local go_sem ↓] Go.wp_at_zero Go.wp_at_succ
def regionAt (n : Nat) : Code → Option Code
  | .region i ops d => if i = n then some (.region i ops d) else none
  | .loop c => regionAt n c
  | .seq a b => match regionAt n a with
    | some c => some c
    | none => regionAt n b
  | .block _ c => regionAt n c
  | .scope c => regionAt n c
  | .cond _ a b => match regionAt n a with
    | some c => some c
    | none => regionAt n b
  | .rangeFunc _ _ a b => match regionAt n a with
    | some c => some c
    | none => regionAt n b
  | _ => none
def cells6 (c : Ch) (A4 : Option Addr) (c4 : Nat) : List Value := [.int .i64 c.f0.f0, .int .u8 c.f0.f1, .string c.f0.f2, .int .i64 c.f0.f3, .slice A4 c.f1.length c4, .bool c.f2]
noncomputable def reg11 : Code := ((Try.f16.body.bind (regionAt 11)).getD .skip)
/-- What stands behind it. -/
def Laid (c : Ch) (W2 : World) (B : Nat) (A5 : Option Addr) (c5 : Nat) (W3 : World) : Prop :=
  W2.heap.size ≤ B ∧ W3.heap[B]? = some (.cells #[.int .i64 c.f0.f0, .int .u8 c.f0.f1, .string c.f0.f2, .int .i64 c.f0.f3, .slice A5 c.f1.length c5] 47 (0, 0)) ∧
    Kd.R (Kd.int .u8) 5 W3 W2.heap.size (fun _ => True) (.slice A5 c.f1.length c5) c.f1 ∧ Below W2.heap.size W2 W3
theorem laid_new {c : Ch} {W2 w' : World} {A5 : Option Addr} {c5 : Nat} (hr : Kd.R (Kd.int .u8) 5 w' W2.drew.heap.size (fun _ => True) (.slice A5 c.f1.length c5) c.f1) (hb : Below W2.drew.heap.size W2.drew w') :
    Laid c W2 w'.heap.size A5 c5 (w'.alloc (.cells #[.int .i64 c.f0.f0, .int .u8 c.f0.f1, .string c.f0.f2, .int .i64 c.f0.f3, .slice A5 c.f1.length c5] 47)) := by
  have hb' : Below W2.heap.size W2 w' := (Below.refl _ _).drew.trans (hb.mono (Nat.le_refl _))
  exact ⟨hb'.size, World.alloc_heap_new _ _, Kd.R_alloc hr _, hb'.alloc hb'.size _⟩
theorem laid_old {c : Ch} {W2 w' : World} {A5 : Option Addr} {c5 : Nat} (hr : Kd.R (Kd.int .u8) 5 w' (W2.alloc (.cells #[.int .i64 0, .int .u8 0, .string ⟨#[]⟩, .int .i64 0, .slice none 0 0] 47)).drew.heap.size (fun _ => True) (.slice A5 c.f1.length c5) c.f1)
    (hb : Below (W2.alloc (.cells #[.int .i64 0, .int .u8 0, .string ⟨#[]⟩, .int .i64 0, .slice none 0 0] 47)).drew.heap.size (W2.alloc (.cells #[.int .i64 0, .int .u8 0, .string ⟨#[]⟩, .int .i64 0, .slice none 0 0] 47)).drew w') :
    Laid c W2 W2.heap.size A5 c5 (((((w'.setCell ⟨W2.heap.size, 0, none⟩ (.int .i64 c.f0.f0)).setCell ⟨W2.heap.size, 1, none⟩ (.int .u8 c.f0.f1)).setCell ⟨W2.heap.size, 2, none⟩ (.string c.f0.f2)).setCell ⟨W2.heap.size, 3, none⟩ (.int .i64 c.f0.f3)).setCell ⟨W2.heap.size, 4, none⟩ (.slice A5 c.f1.length c5)) := by
  have hs : (W2.alloc (.cells #[.int .i64 0, .int .u8 0, .string ⟨#[]⟩, .int .i64 0, .slice none 0 0] 47)).drew.heap.size = W2.heap.size + 1 := by simp
  have hz : w'.heap[W2.heap.size]? = some (.cells #[.int .i64 0, .int .u8 0, .string ⟨#[]⟩, .int .i64 0, .slice none 0 0] 47 (0, 0)) :=
    (hb.block W2.heap.size (by rw [hs]; omega)).trans (World.alloc_heap_new W2 _)
  have hb' : Below W2.heap.size W2 w' := ((Below.refl _ _).alloc (Nat.le_refl _) _).drew.trans (hb.mono (by rw [hs]; omega))
  refine ⟨Nat.le_refl _, ?_, ?_, ((((hb'.setCell (p := ⟨W2.heap.size, 0, none⟩) (Nat.le_refl _) _).setCell (p := ⟨W2.heap.size, 1, none⟩) (Nat.le_refl _) _).setCell (p := ⟨W2.heap.size, 2, none⟩) (Nat.le_refl _) _).setCell (p := ⟨W2.heap.size, 3, none⟩) (Nat.le_refl _) _).setCell (p := ⟨W2.heap.size, 4, none⟩) (Nat.le_refl _) _⟩
  · exact blk_put (blk_put (blk_put (blk_put (blk_put hz 0 _ rfl) 1 _ rfl) 2 _ rfl) 3 _ rfl) 4 _ rfl
  · rw [hs] at hr
    refine Kd.R_lower (base := W2.heap.size + 1) (Kd.R_mono (ok := fun k => W2.heap.size + 1 ≤ k) ?_ fun _ _ => trivial) (by omega)
    have hr' := Kd.R_mono (Kd.R_bound hr) (ok' := fun k => W2.heap.size + 1 ≤ k) fun k hk => hk.2.1
    exact Kd.R_far (Kd.R_far (Kd.R_far (Kd.R_far (Kd.R_far hr' (p := ⟨W2.heap.size, 0, none⟩) (fun k hk => by show k ≠ W2.heap.size; omega) _) (p := ⟨W2.heap.size, 1, none⟩) (fun k hk => by show k ≠ W2.heap.size; omega) _) (p := ⟨W2.heap.size, 2, none⟩) (fun k hk => by show k ≠ W2.heap.size; omega) _) (p := ⟨W2.heap.size, 3, none⟩) (fun k hk => by show k ≠ W2.heap.size; omega) _) (p := ⟨W2.heap.size, 4, none⟩) (fun k hk => by show k ≠ W2.heap.size; omega) _
theorem bcell {W w1 : World} (hb : Below W.heap.size W w1) : (∀ b o, b < W.heap.size → w1.cell? ⟨b, o, none⟩ = W.cell? ⟨b, o, none⟩) ∧ (∀ b o, b < W.heap.size → w1.frozen? ⟨b, o, none⟩ = W.frozen? ⟨b, o, none⟩) :=
  ⟨fun b o h => hb.cell (p := ⟨b, o, none⟩) h, fun b o h => hb.frozen (p := ⟨b, o, none⟩) h⟩
set_option maxRecDepth 100000 in
set_option maxHeartbeats 4000000 in
theorem reg11_any (u0 u1 u2 u3 u4 u5 u6 u7 u9 u10 u11 u12 u13 u14 u15 u16 u17 u18 u19 u20 u21 u22 u23 u24 u25 u26 u27 u28 u29 u30 u31 u32 u33 u34 u35 u36 u37 u38 u39 u40 u41 u42 u43 u44 u45 u46 u47 u48 u49 u50 u51 u52 u53 u54 u55 u56 u57 u58 u59 u60 u61 u62 u63 u64 u65 u66 u67 u68 : Value) (ds : List Deferred) (x : Nat) (c : Ch) (A4 : Option Addr) (c4 : Nat) (W2 : World) (hx : W2.heap[x]? = some (.cells (cells6 c A4 c4).toArray 53 (0, 0)))
    (hC : Kd.C (Kd.int .u8) W2 A4 c.f1.length c.f1) (hc4 : c.f1.length ≤ c4) (hcv : c.f1.length < 140737488355328) (Q : Exit → Act → World → Prop)
    (hQ : ∀ (v35 v36 v37 v38 v39 v40 : Value) (W3 : World) (B : Nat) (A5 : Option Addr) (c5 : Nat), Laid c W2 B A5 c5 W3 → Q .normal { tmps := #[u0, u1, u2, u3, u4, u5, u6, u7, .pointer (some ⟨x, 0, none⟩), u9, u10, .pointer (some ⟨B, 0, none⟩), u12, u13, u14, u15, u16, u17, u18, u19, u20, u21, u22, u23, u24, u25, u26, u27, u28, u29, u30, u31, u32, u33, u34, v35, v36, v37, v38, v39, v40, u41, u42, u43, u44, u45, u46, u47, u48, u49, u50, u51, u52, u53, u54, u55, u56, u57, u58, u59, u60, u61, u62, u63, u64, u65, u66, u67, u68], defers := ds } W3) :
    Code.wp Try.prog reg11 Q { tmps := #[u0, u1, u2, u3, u4, u5, u6, u7, .pointer (some ⟨x, 0, none⟩), u9, u10, u11, u12, u13, u14, u15, u16, u17, u18, u19, u20, u21, u22, u23, u24, u25, u26, u27, u28, u29, u30, u31, u32, u33, u34, u35, u36, u37, u38, u39, u40, u41, u42, u43, u44, u45, u46, u47, u48, u49, u50, u51, u52, u53, u54, u55, u56, u57, u58, u59, u60, u61, u62, u63, u64, u65, u66, u67, u68], defers := ds } W2 := by
  conv => arg 2; whnf
  have k0 : W2.cell? ⟨x, 0, none⟩ = some (.int .i64 c.f0.f0) := by simp [World.cell?, hx, cells6]
  have k1 : W2.cell? ⟨x, 1, none⟩ = some (.int .u8 c.f0.f1) := by simp [World.cell?, hx, cells6]
  have k2 : W2.cell? ⟨x, 2, none⟩ = some (.string c.f0.f2) := by simp [World.cell?, hx, cells6]
  have k3 : W2.cell? ⟨x, 3, none⟩ = some (.int .i64 c.f0.f3) := by simp [World.cell?, hx, cells6]
  have k4 : W2.cell? ⟨x, 4, none⟩ = some (.slice A4 c.f1.length c4) := by simp [World.cell?, hx, cells6]
  have hlt : x < W2.heap.size := (Array.getElem?_eq_some_iff.1 hx).1
  have HC : Hid (∀ W', Below W2.heap.size W2 W' → Calls Try.prog 37 #[.slice A4 c.f1.length c4] W' fun e w' => ∃ (A5 : Option Addr) (c5 : Nat), e = .returned (.slice A5 c.f1.length c5) ∧ Kd.R (Kd.int .u8) 5 w' W'.heap.size (fun _ => True) (.slice A5 c.f1.length c5) c.f1 ∧ Below W'.heap.size W' w' ∧ w'.cell? ⟨x, 0, none⟩ = some (.int .i64 c.f0.f0) ∧ w'.cell? ⟨x, 1, none⟩ = some (.int .u8 c.f0.f1) ∧ w'.cell? ⟨x, 2, none⟩ = some (.string c.f0.f2) ∧ w'.cell? ⟨x, 3, none⟩ = some (.int .i64 c.f0.f3) ∧ w'.cell? ⟨x, 4, none⟩ = some (.slice A4 c.f1.length c4)) := Lib.hid fun W' hb => by
    refine (clone_any A4 c4 c.f1 W' (Kd.C_below hC hb) hc4 hcv).mono ?_
    rintro e w' ⟨v, rfl, hR, hB⟩
    obtain ⟨A5, c5, rfl⟩ := Kd.R_slice hR
    have hb2 := hb.trans (hB.mono hb.size)
    exact ⟨A5, c5, rfl, hR, hB, cell_below hb2 k0, cell_below hb2 k1, cell_below hb2 k2, cell_below hb2 k3, cell_below hb2 k4⟩
  have HQ := Lib.hid hQ
  clear hx hC hQ
  have hne : x ≠ W2.heap.size := by omega
  have m0 := World.new_ne W2 _ k0
  have m1 := World.new_ne W2 _ k1
  have m2 := World.new_ne W2 _ k2
  have m3 := World.new_ne W2 _ k3
  have m4 := World.new_ne W2 _ k4
  refine wp_region_noPanic ?_
  go_region_held3 (fun w' => w'.cell? ⟨x, 0, none⟩ = some (.int .i64 c.f0.f0) ∧ w'.cell? ⟨x, 1, none⟩ = some (.int .u8 c.f0.f1) ∧ w'.cell? ⟨x, 2, none⟩ = some (.string c.f0.f2) ∧ w'.cell? ⟨x, 3, none⟩ = some (.int .i64 c.f0.f3) ∧ w'.cell? ⟨x, 4, none⟩ = some (.slice A4 c.f1.length c4)) (go_keep)
    (first | (go_at_call 37; (with_reducible refine (HC.out _ ?_).mono ?_); ((first | exact (((Below.refl _ _).alloc (Nat.le_refl _) _).drew) | exact (Below.refl _ _).drew | exact ((Below.refl _ _).alloc (Nat.le_refl _) _))); rintro e w' ⟨A5, c5, rfl, hr5, hb5, q0, q1, q2, q3, q4⟩; obtain ⟨hc, hf⟩ := bcell hb5; have hsz := hb5.size))
  all_goals refine NoPanic.normal ?_
  all_goals refine HQ.out _ _ _ _ _ _ _ _ A5 c5 ?_
  all_goals first
    | with_reducible exact laid_new hr5 hb5
    | with_reducible exact laid_old hr5 hb5
end Go.Proofs.Ytbhmncenbpdcjaa.P
end
section
/- slices.Delete of one element of a row of the call's own: its contract. -/
namespace Go.Proofs.Ytbhmncenbpdcjaa.P
open Go.RowKit Go.Proofs.YtbhmncenbpdcjaaW.PrintWords Go.Proofs.YtbhmncenbpdcjaaW.PrintLast Go.Proofs.YtbhmncenbpdcjaaW.PrintMore
set_option linter.unusedVariables false
set_option linter.unusedSimpArgs false

theorem del_take (L inner zs : List Value) (i r s cap : Nat) (h : L.take ((i + 1 + r) * s) = inner) (hn : i + 1 + r ≤ cap) (hL : L.length = cap * s) (hz : zs.length = s) :
    (splice (splice L (i * s) (inner.drop ((i + 1) * s))) ((i + r) * s) zs).take ((i + r) * s) = inner.take (i * s) ++ inner.drop ((i + 1) * s) := by
  have e1 : (i + 1 + r) * s = i * s + s + r * s := by rw [Nat.add_mul, Nat.add_mul, Nat.one_mul]
  have e2 : (i + r) * s = i * s + r * s := Nat.add_mul _ _ _
  have e3 : (i + 1) * s = i * s + s := by rw [Nat.add_mul, Nat.one_mul]
  have hc : (i + 1 + r) * s ≤ cap * s := Nat.mul_le_mul_right _ hn
  rw [e1] at h hc
  rw [e2, e3]
  have hil : inner.length = i * s + s + r * s := by rw [← h, List.length_take]; omega
  have hdl : (inner.drop (i * s + s)).length = r * s := by rw [List.length_drop]; omega
  have ht : L.take (i * s) = inner.take (i * s) := by rw [← h, List.take_take, Nat.min_eq_left (by omega)]
  have e4 : splice L (i * s) (inner.drop (i * s + s)) = inner.take (i * s) ++ (inner.drop (i * s + s) ++ L.drop (i * s + r * s)) := by
    unfold splice; rw [ht, hdl]
  have hA : (inner.take (i * s) ++ inner.drop (i * s + s)).length = i * s + r * s := by rw [List.length_append, hdl, List.length_take]; omega
  have e5 : (splice L (i * s) (inner.drop (i * s + s))).take (i * s + r * s) = inner.take (i * s) ++ inner.drop (i * s + s) := by
    rw [e4, ← List.append_assoc, ← hA, List.take_left]
  generalize splice L (i * s) (inner.drop (i * s + s)) = M at e5 ⊢
  show (M.take (i * s + r * s) ++ (zs ++ _)).take (i * s + r * s) = _
  rw [e5, ← hA, List.take_left]
def Z0 : Value := .agg #[.int .i64 0, .int .u8 0, .string ⟨#[]⟩, .int .i64 0, .slice none 0 0]
theorem zero0 (w : World) : (zeroValue 47).run Try.prog w = .ok Z0 w := by kernel_rfl
set_option maxHeartbeats 2000000 in
set_option maxRecDepth 100000 in
theorem delFact_any (v : Value) (xs : List S47) (i : Nat) (w : World) (base : Nat) (ok : Nat → Prop) (h : Kd.R k47 47 w base ok v xs) (hi : i < xs.length) :
    Calls Try.prog 38 #[v, .int .i64 i, .int .i64 ((i : Int) + 1)] w fun e w' => ∃ v', e = .returned v' ∧ Kd.R k47 47 w' base ok v' (xs.eraseIdx i) ∧ w.grownBy w' v.ownBlock ∧ v'.ownBlock = v.ownBlock := by
  rcases R_form h with ⟨_, rfl⟩ | ⟨g, cap, L, inner, rfl, hok, hbase, hgL, hnc, hcm, hLlen, htake, hlen, hreps⟩
  · simp at hi
  have hone := reps_cells_one (by decide) hreps
  obtain ⟨r, hn⟩ : ∃ r, xs.length = i + 1 + r := ⟨xs.length - (i + 1), by omega⟩
  rw [hn] at hlen hnc htake ⊢
  have hLlen : L.length = cap * 5 := hLlen
  have hlen : inner.length = (i + 1 + r) * 5 := hlen
  have htake : L.take ((i + 1 + r) * 5) = inner := htake
  have hcm' : cap ≤ 9223372036854775807 := by unfold maxLen at hcm; exact hcm
  have hel : (xs.eraseIdx i).length = i + r := by rw [List.length_eraseIdx, if_pos hi, hn]; omega
  have HE : Hid (∀ w', w.grownBy w' (some g) → (∃ L', w'.heap[g]? = some (.cells (List.toArray L') 47 (0, 0)) ∧ L'.length = cap * 5 ∧ L'.take ((i + r) * 5) = inner.take (i * 5) ++ inner.drop ((i + 1) * 5)) → Kd.R k47 47 w' base ok (.slice (some ⟨g, 0, none⟩) (i + r) cap) (xs.eraseIdx i)) := by
    rintro w' hg' ⟨L', h1, h2, h3⟩
    have hr : Reps (k47.M w base (fun k => ok k ∧ some k ≠ some g)) 5 (xs.eraseIdx i) (inner.take (i * 5) ++ inner.drop ((i + 1) * 5)) := by
      rw [eraseIdx_eq _ _ hi]
      exact Kd.reps_append (Kd.reps_take hreps (by omega)) (Kd.reps_drop hreps)
    have := R_of_blk (d := k47) (w := w) (w1 := w') hok hbase hg' h1 h2 hcm (by rw [hel]; omega) (by rw [hel]; exact h3) hr
    rw [hel] at this
    exact this
  have b2 : (i : Int) ≤ (i : Int) + 1 := by omega
  have b4 : (0 : Int) ≤ (i : Int) + 1 := by omega
  have b5 : ((i : Int) == (i : Int) + 1) = false := by rw [beq_eq_false_iff_ne]; omega
  have b6 : i ≤ cap := by omega
  have b7 : i + 1 ≤ i + 1 + r := by omega
  have b8 : (i : Int) + (r : Int) ≤ (i : Int) + 1 + (r : Int) := by omega
  have b9 : (i : Int) + 1 ≤ (i : Int) + 1 + (r : Int) := by omega
  have b10 : (i : Int) + 1 + (r : Int) ≤ (cap : Int) := by omega
  have b11 : (0 : Int) ≤ (i : Int) + (r : Int) := by omega
  have hroom : i + r ≤ cap := by omega
  have b12 : cap ≠ i := by omega
  have b14 : i + 1 + r - (i + r) = 1 := by omega
  have b13 : cap ≠ i + r := by omega
  obtain ⟨i0, hi0, hz0, hz1, hz2⟩ := info_parts info47
  obtain ⟨news, hnews⟩ : ∃ news, news = inner.drop ((i + 1) * 5) := ⟨_, rfl⟩
  have hnl : news.length = r * i0.size := by
    rw [hnews, List.length_drop, hlen, hz1]
    omega
  have hn1 : ∀ u ∈ news, u.oneCell' = true := fun u hu => hone u (by rw [hnews] at hu; exact List.mem_of_mem_drop hu)
  have hi0s : 0 < i0.size := by rw [hz1]; decide
  have hfit : 0 + i * i0.size + news.length ≤ L.length := by
    rw [hnl, hLlen, hz1]
    omega
  have hsrc : ∀ j u, news[j]? = some u → w.cell? ((⟨g, (i + 1) * 5, none⟩ : Addr).add j) = some u := by
    refine blk_cells hgL fun j u hj => ?_
    rw [hnews] at hj
    exact getElem_of_take htake hj
  obtain ⟨zs, hzs⟩ : ∃ zs, (Builtin.zeroCells Z0.cells 1).toList = zs := ⟨_, rfl⟩
  have hzl : zs.length = 5 := by rw [← hzs]; decide +kernel
  have hz1' : ∀ u ∈ zs, u.oneCell' = true := by rw [← hzs]; decide +kernel
  have hfit2 : (i + r) * 5 + zs.length ≤ (splice L (0 + i * i0.size) news).length := by
    rw [length_splice _ _ _ hfit, hLlen, hzl]
    have : (i + r + 1) * 5 ≤ cap * 5 := Nat.mul_le_mul_right _ (by omega)
    rw [Nat.add_mul] at this
    omega
  have HT : Hid ((splice (splice L (0 + i * i0.size) news) ((i + r) * 5) zs).length = cap * 5 ∧ (splice (splice L (0 + i * i0.size) news) ((i + r) * 5) zs).take ((i + r) * 5) = inner.take (i * 5) ++ inner.drop ((i + 1) * 5)) := by
    refine ⟨by rw [length_splice _ _ _ hfit2, length_splice _ _ _ hfit, hLlen], ?_⟩
    rw [hz1, Nat.zero_add, hnews]
    exact del_take L inner zs i r 5 cap htake hnc hLlen hzl
  clear hone hn hlen htake hLlen hnews hzl hel h hi hreps hok hbase hcm
  by_cases hcap : cap = i + 1
  · have hr0 : r = 0 := by omega
    subst hr0
    have hnil : news = [] := List.eq_nil_of_length_eq_zero (by omega)
    subst hcap
    subst hnil
    clear hsrc
    go_enter Try.func38, Try.ntmps38
    go_wp2
    go_region_law (refine step_append_sz rfl (.tmp 22) (.tmp 25) 38 rfl 47 i0 Try.underlying38 hi0 _ _ _ _ _ _ rfl rfl g 0 L 47 hgL [] hnl hi0s (fun h => absurd h (by simp)) hroom hfit hn1 ?_)
    have hg2 := setRow_blk w.drew g L (splice L (0 + i * i0.size) []) 47 hgL
    have hgr := setRow_grown w.drew g (splice L (0 + i * i0.size) []).toArray
    simp only [hz1, Nat.zero_add] at hg2 hgr hfit2 HT
    go_wp2
    rw [run_clear_sz (P := Try.prog) _ 38 47 0 Z0 Try.underlying38 zero0 1 _ (by omega) g (i * 5) _ 47 hg2 zs hzs hfit2 hz1']
    simp only [Result.andThen_ok]
    have hgq := (show w.grownBy _ (some g) from ⟨hgr.os, hgr.tape, hgr.output, hgr.size, hgr.block⟩).trans (setRow_grown _ g (splice (splice L (i * 5) []) (i * 5) zs).toArray)
    have hbq := setRow_blk _ g (splice L (i * 5) []) (splice (splice L (i * 5) []) (i * 5) zs) 47 hg2
    go_wp2
    go_ret
    exact ⟨_, rfl, HE.out _ hgq ⟨_, hbq, HT.out.1, HT.out.2⟩, hgq, rfl⟩
  · go_enter Try.func38, Try.ntmps38
    go_wp2
    go_region_law (refine step_append_sz rfl (.tmp 22) (.tmp 25) 38 rfl 47 i0 Try.underlying38 hi0 _ _ _ _ _ _ rfl rfl g 0 L 47 hgL news hnl hi0s (fun h => ⟨rfl, _, rfl, hsrc⟩) hroom hfit hn1 ?_)
    have hg2 := setRow_blk w.drew g L (splice L (0 + i * i0.size) news) 47 hgL
    have hgr := setRow_grown w.drew g (splice L (0 + i * i0.size) news).toArray
    simp only [hz1, Nat.zero_add] at hg2 hgr hfit2 HT
    go_wp2
    rw [run_clear_sz (P := Try.prog) _ 38 47 0 Z0 Try.underlying38 zero0 1 _ (by omega) g ((i + r) * 5) _ 47 hg2 zs hzs hfit2 hz1']
    simp only [Result.andThen_ok]
    have hgq := (show w.grownBy _ (some g) from ⟨hgr.os, hgr.tape, hgr.output, hgr.size, hgr.block⟩).trans (setRow_grown _ g (splice (splice L (i * 5) news) ((i + r) * 5) zs).toArray)
    have hbq := setRow_blk _ g (splice L (i * 5) news) (splice (splice L (i * 5) news) ((i + r) * 5) zs) 47 hg2
    go_wp2
    go_ret
    exact ⟨_, rfl, HE.out _ hgq ⟨_, hbq, HT.out.1, HT.out.2⟩, hgq, rfl⟩
end Go.Proofs.Ytbhmncenbpdcjaa.P
end
section
/- A row's element that is written anew. Of no program. -/
namespace Go.Proofs.Ytbhmncenbpdcjaa
open Go.RowKit Go.Proofs.YtbhmncenbpdcjaaW.PrintWords
set_option linter.unusedVariables false
theorem setCell_grown (w : World) (g o : Nat) (v : Value) : w.grownBy (w.setCell ⟨g, o, none⟩ v) (some g) := by
  have h := (Below.refl 0 w).setCell (p := ⟨g, o, none⟩) (Nat.zero_le _) v
  exact ⟨h.os, h.tape, h.output, h.size, fun k _ hk => Below.heap_setCell w ⟨g, o, none⟩ v k (fun e => hk (by rw [e]))⟩
theorem splice_two (L : List Value) (o : Nat) (v0 v1 : Value) (h : o + 2 ≤ L.length) : (L.toArray.setIfInBounds o v0).setIfInBounds (o + 1) v1 = (splice L o [v0, v1]).toArray := by
  simp only [List.setIfInBounds_toArray]
  congr 1
  apply List.ext_getElem?
  intro j
  unfold splice
  simp only [List.getElem?_set, List.getElem?_append, List.length_take, List.length_set, List.length_cons, List.length_nil, List.getElem?_take, List.getElem?_drop]
  rw [Nat.min_eq_left (by omega)]
  rcases Nat.lt_or_ge j o with h1 | h1
  · simp [h1, show ¬ o + 1 = j by omega, show ¬ o = j by omega]
  · rcases Nat.lt_or_ge j (o + 2) with h2 | h2
    · obtain h3 | h3 : j = o ∨ j = o + 1 := by omega
      · subst h3; simp [show j < L.length by omega]
      · subst h3; simp [show o + 1 < L.length by omega]; intro h; omega
    · simp [show ¬ j < o by omega, show ¬ o + 1 = j by omega, show ¬ o = j by omega, show ¬ j - o < 2 by omega]
      congr 1
      omega
theorem splice_five (L : List Value) (o : Nat) (v0 v1 v2 v3 v4 : Value) (h : o + 5 ≤ L.length) : ((((L.toArray.setIfInBounds o v0).setIfInBounds (o + 1) v1).setIfInBounds (o + 2) v2).setIfInBounds (o + 3) v3).setIfInBounds (o + 4) v4 = (splice L o [v0, v1, v2, v3, v4]).toArray := by
  simp only [List.setIfInBounds_toArray]
  congr 1
  apply List.ext_getElem?
  intro j
  unfold splice
  simp only [List.getElem?_set, List.getElem?_append, List.length_take, List.length_set, List.length_cons, List.length_nil, List.getElem?_take, List.getElem?_drop]
  rw [Nat.min_eq_left (by omega)]
  rcases Nat.lt_or_ge j o with h1 | h1
  · simp [h1, show ¬ o + 1 = j by omega, show ¬ o + 2 = j by omega, show ¬ o + 3 = j by omega, show ¬ o + 4 = j by omega, show ¬ o = j by omega]
  · rcases Nat.lt_or_ge j (o + 5) with h2 | h2
    · obtain h3 | h3 | h3 | h3 | h3 : j = o ∨ j = o + 1 ∨ j = o + 2 ∨ j = o + 3 ∨ j = o + 4 := by omega
      · subst h3; simp [show j < L.length by omega]
      · subst h3; simp [show o + 1 < L.length by omega]; intro h; omega
      · subst h3; simp [show o + 2 < L.length by omega]; intro h; omega
      · subst h3; simp [show o + 3 < L.length by omega]; intro h; omega
      · subst h3; simp [show o + 4 < L.length by omega]; intro h; omega
    · simp [show ¬ j < o by omega, show ¬ o + 1 = j by omega, show ¬ o + 2 = j by omega, show ¬ o + 3 = j by omega, show ¬ o + 4 = j by omega, show ¬ o = j by omega, show ¬ j - o < 5 by omega]
      congr 1
      omega
theorem set_two {w : World} {g : Nat} {t : TypeId} {L : List Value} (h : w.heap[g]? = some (.cells L.toArray t (0, 0))) (o : Nat) (v0 v1 : Value) (ho : o + 2 ≤ L.length) :
    ((w.setCell ⟨g, o, none⟩ v0).setCell ⟨g, o + 1, none⟩ v1).heap[g]? = some (.cells (splice L o [v0, v1]).toArray t (0, 0)) ∧ w.grownBy ((w.setCell ⟨g, o, none⟩ v0).setCell ⟨g, o + 1, none⟩ v1) (some g) := by
  refine ⟨?_, (setCell_grown _ _ _ _).trans (setCell_grown _ _ _ _)⟩
  rw [← splice_two L o v0 v1 ho]
  exact blk_set (blk_set h _ _) _ _
theorem set_five {w : World} {g : Nat} {t : TypeId} {L : List Value} (h : w.heap[g]? = some (.cells L.toArray t (0, 0))) (o : Nat) (v0 v1 v2 v3 v4 : Value) (ho : o + 5 ≤ L.length) :
    (((((w.setCell ⟨g, o, none⟩ v0).setCell ⟨g, o + 1, none⟩ v1).setCell ⟨g, o + 2, none⟩ v2).setCell ⟨g, o + 3, none⟩ v3).setCell ⟨g, o + 4, none⟩ v4).heap[g]? = some (.cells (splice L o [v0, v1, v2, v3, v4]).toArray t (0, 0)) ∧
      w.grownBy (((((w.setCell ⟨g, o, none⟩ v0).setCell ⟨g, o + 1, none⟩ v1).setCell ⟨g, o + 2, none⟩ v2).setCell ⟨g, o + 3, none⟩ v3).setCell ⟨g, o + 4, none⟩ v4) (some g) := by
  refine ⟨?_, ((((setCell_grown _ _ _ _).trans (setCell_grown _ _ _ _)).trans (setCell_grown _ _ _ _)).trans (setCell_grown _ _ _ _)).trans (setCell_grown _ _ _ _)⟩
  rw [← splice_five L o v0 v1 v2 v3 v4 ho]
  exact blk_set (blk_set (blk_set (blk_set (blk_set h _ _) _ _) _ _) _ _) _ _
theorem set_eq {α : Type} (xs : List α) (i : Nat) (x : α) (hi : i < xs.length) : xs.set i x = xs.take i ++ [x] ++ xs.drop (i + 1) := by
  rw [List.set_eq_take_append_cons_drop, if_pos hi]; simp
theorem splice_eq (L : List Value) (o : Nat) (N : List Value) : splice L o N = L.take o ++ N ++ L.drop (o + N.length) := by
  unfold splice; simp
variable {α : Type} {d : Kd α} {e : Nat} {w w1 : World} {base : Nat} {ok : Nat → Prop}
theorem R_setAt {g cap i : Nat} {L inner cs : List Value} {xs : List α} {x : α} (hok : ok g) (hbase : base ≤ g) (hnc : xs.length ≤ cap) (hcm : cap ≤ maxLen) (hL : L.length = cap * d.sz) (htake : L.take (xs.length * d.sz) = inner) (hlen : inner.length = xs.length * d.sz)
    (hreps : Reps (d.M w base (fun k => ok k ∧ some k ≠ some g)) d.sz xs inner) (hi : i < xs.length) (hx : d.M w base (fun k => ok k ∧ some k ≠ some g) x cs) (hcs : cs.length = d.sz) (hg : w.grownBy w1 (some g)) (hb : w1.heap[g]? = some (.cells (splice L (i * d.sz) cs).toArray e (0, 0))) :
    d.R e w1 base ok (.slice (some ⟨g, 0, none⟩) xs.length cap) (xs.set i x) := by
  have h1 : (i + 1) * d.sz ≤ xs.length * d.sz := Nat.mul_le_mul_right _ hi
  have h2 : (i + 1) * d.sz = i * d.sz + d.sz := by rw [Nat.add_mul, Nat.one_mul]
  have h3 : xs.length * d.sz ≤ cap * d.sz := Nat.mul_le_mul_right _ hnc
  have hr : Reps (d.M w base (fun k => ok k ∧ some k ≠ some g)) d.sz (xs.set i x) (splice inner (i * d.sz) cs) := by
    rw [set_eq xs i x hi, splice_eq, hcs, ← h2]
    exact Kd.reps_append ((Kd.reps_take hreps (by omega)).snoc hx hcs) (Kd.reps_drop hreps)
  have := R_of_blk (d := d) (w := w) (w1 := w1) (g := g) (cap := cap) (xs := xs.set i x) hok hbase hg hb (by rw [length_splice _ _ _ (by omega)]; exact hL) hcm (by simpa using hnc) (by
    rw [List.length_set, splice_eq, splice_eq, ← htake]
    have ha : ((List.take (xs.length * d.sz) L).take (i * d.sz) ++ cs).length = (i + 1) * d.sz := by rw [List.length_append, List.length_take, List.length_take, hcs]; omega
    have ha' : (L.take (i * d.sz) ++ cs).length = (i + 1) * d.sz := by rw [List.length_append, List.length_take, hcs]; omega
    rw [List.take_append, ha', List.take_of_length_le (by omega), hcs, ← h2, List.take_take, Nat.min_eq_left (by omega), List.drop_take]) hr
  rw [List.length_set] at this
  exact this
end Go.Proofs.Ytbhmncenbpdcjaa
end
section
/- fact.Apply: a round of the loop of changes. -/
namespace Go.Proofs.Ytbhmncenbpdcjaa.P
open Go Go.Shelf Go.RowKit Go.Proofs.YtbhmncenbpdcjaaW.PrintWords Go.Proofs.YtbhmncenbpdcjaaW.PrintLast Go.Proofs.YtbhmncenbpdcjaaW.PrintMore
set_option linter.unusedVariables false
set_option linter.unusedSimpArgs false
attribute [local go_sem] Oper.semAt_some
attribute [local go_sem ↓] Go.wp_at_zero Go.wp_at_succ
def firstLoop : Code → Option Code
  | .loop c => some c
  | .seq a b => match firstLoop a with
    | some c => some c
    | none => firstLoop b
  | .block _ c => firstLoop c
  | .scope c => firstLoop c
  | .cond _ a b => match firstLoop a with
    | some c => some c
    | none => firstLoop b
  | _ => none
noncomputable def applyBody : Code := ((Try.f16.body.bind firstLoop).getD .skip)
set_option maxRecDepth 100000 in
set_option maxHeartbeats 4000000 in
theorem apply_round (u0 u1 u2 u3 u4 u6 u7 u8 u9 u10 u11 u12 u13 u14 u15 u16 u17 u18 u19 u20 u21 u25 u26 u27 u28 u29 u30 u31 u32 u33 u34 u35 u36 u37 u38 u39 u40 u41 u42 u43 u44 u45 u46 u47 u48 u49 u50 u51 u52 u53 u54 u55 u56 u57 u58 u59 u60 u61 u62 u63 u64 u65 u66 u67 u68 : Value) (ds : List Deferred) (b j n0 : Nat) (A1 : Option Addr) (c1 : Nat) (l1 : List Ch) (Au : Option Addr) (cu : Nat) (cur : List F) (W : World) (Q : Exit → Act → World → Prop)
    (hj : j < l1.length) (hr1 : Kd.C k53 W A1 l1.length l1) (hc1 : l1.length ≤ c1) (hs1 : ∀ x ∈ l1, x.f1.length < 140737488355328)
    (hu : Boxed W b 38 (.slice Au cur.length cu)) (hR : Kd.R k47 47 W n0 (fun _ => True) (.slice Au cur.length cu) cur) (hn0 : n0 ≤ W.heap.size) (hnb : n0 ≤ b) (hord : Ord cur) (hbig : (cur.length + 1) * 64 ≤ 140737488355328)
    (hQ : ∀ (v8 v9 v10 v11 v25 v26 v27 v28 v29 v30 v31 v32 v33 v34 v35 v36 v37 v38 v39 v40 v41 v42 v43 v44 v45 v46 v47 v48 v49 v50 v51 v52 v53 v54 v55 v56 v57 v58 v59 v60 v61 v62 v63 v64 v65 v66 v67 u' : Value) (W' : World), Boxed W' b 38 u' → Kd.R k47 47 W' n0 (fun _ => True) u' (stepB cur (rd_T53 l1 (j : Nat))) → Below n0 W W' → (∀ (D : Nat) (x : Option (List Deferred)), W.heap[D]? = some (.deferred x) → W'.heap[D]? = some (.deferred x)) →
      Q .normal { tmps := #[u0, u1, u2, u3, u4, .pointer (some ⟨b, 0, none⟩), u6, u7, v8, v9, v10, v11, u12, u13, u14, u15, u16, u17, u18, u19, u20, u21, .slice A1 l1.length c1, .int .i64 l1.length, .int .i64 ((j : Int) + 1), v25, v26, v27, v28, v29, v30, v31, v32, v33, v34, v35, v36, v37, v38, v39, v40, v41, v42, v43, v44, v45, v46, v47, v48, v49, v50, v51, v52, v53, v54, v55, v56, v57, v58, v59, v60, v61, v62, v63, v64, v65, v66, v67, u68], defers := ds } W') :
    Code.wp Try.prog applyBody Q { tmps := #[u0, u1, u2, u3, u4, .pointer (some ⟨b, 0, none⟩), u6, u7, u8, u9, u10, u11, u12, u13, u14, u15, u16, u17, u18, u19, u20, u21, .slice A1 l1.length c1, .int .i64 l1.length, .int .i64 j, u25, u26, u27, u28, u29, u30, u31, u32, u33, u34, u35, u36, u37, u38, u39, u40, u41, u42, u43, u44, u45, u46, u47, u48, u49, u50, u51, u52, u53, u54, u55, u56, u57, u58, u59, u60, u61, u62, u63, u64, u65, u66, u67, u68], defers := ds } W := by
  conv => arg 2; whnf
  obtain ⟨ad, A4, c4, hA, h0, h1, h2, h3, h4, h5, h6, h7⟩ := at_T53 hr1 (j : Nat) (by omega) (by omega)
  subst hA
  simp only [Int.toNat_natCast] at h0 h1 h2 h3 h4 h5
  have hcv : (rd_T53 l1 (j : Nat)).f1.length < 140737488355328 := hs1 _ (by unfold rd_T53; simp [List.getD, hj])
  generalize rd_T53 l1 (j : Nat) = c at *
  have cc : (j : Int) < (l1.length : Int) := by omega
  have hjm : l1.length ≤ 9223372036854775807 := hr1.2.1
  obtain ⟨Au', cu', hus, huc, huC⟩ := Kd.R_reads hR
  injection hus with e1 _ e2
  subst e1 e2
  have hb0 := hu.cell
  have hf0 := hu.frozen
  have hbl := hu.lt
  have hbq : ∀ o, (W.alloc o).cell? ⟨b, 0, none⟩ = some (.slice Au cur.length cu) := fun o => (hu.alloc o).cell
  have HQ := Lib.hid hQ
  have HS := Lib.hid (And.intro hr1 (And.intro hs1 (And.intro hord hbig)))
  clear hQ hr1 hs1 hord hbig
  have hWB : Below W.heap.size W (W.alloc (Obj.cells (cells6 c A4 c4).toArray 53)) := (Below.refl _ _).alloc (Nat.le_refl _) _
  have hx := World.alloc_heap_new W (Obj.cells (cells6 c A4 c4).toArray 53)
  go_wp2_with fail
  obtain ⟨hr1, hs1, hord, hbig⟩ := HS.out
  clear hbq
  rw [show #[Value.int IntKind.i64 c.f0.f0, Value.int IntKind.u8 c.f0.f1, Value.string c.f0.f2, Value.int IntKind.i64 c.f0.f3, Value.slice A4 c.f1.length c4, Value.bool c.f2] = (cells6 c A4 c4).toArray from rfl]
  generalize W.alloc (Obj.cells (cells6 c A4 c4).toArray 53) = WB at *
  refine (place_any Au cu cur c.f0 (mono_of cur hord c.f0) (by omega) WB (Kd.C_below huC hWB)).mono ?_
  rintro e W2 ⟨rfl, hb2⟩
  have hxl : W.heap.size < WB.heap.size := (Array.getElem?_eq_some_iff.1 hx).1
  have hx2 : W2.heap[W.heap.size]? = _ := (hb2.block _ hxl).trans hx
  have hW2 := hWB.trans (hb2.mono hWB.size)
  have hu2 : Boxed W2 b 38 (.slice Au cur.length cu) := (hW2.block b hbl).trans hu
  have hR2 := Kd.R_below hR hW2
  have hC2 := Kd.C_below h7 hW2
  have HX := Lib.hid (And.intro hu2 (And.intro hR2 (And.intro hW2 (And.intro hord (And.intro hbig (And.intro hr1 hs1))))))
  clear hr1 hs1 hord hbig h0 h1 h2 h3 h4 h5 h7 hx hxl hb2 hWB huC hb0 hf0 hu hR hu2 hR2 hW2
  have HX2 := Lib.hid hx2
  clear hx2
  go_wp2_with fail
  refine reg11_any _ _ _ _ _ _ _ _ _ _ _ _ _ _ _ _ _ _ _ _ _ _ _ _ _ _ _ _ _ _ _ _ _ _ _ _ _ _ _ _ _ _ _ _ _ _ _ _ _ _ _ _ _ _ _ _ _ _ _ _ _ _ _ _ _ _ _ _ _ _ c A4 c4 W2 HX2.out hC2 h6 hcv _ ?_
  intro v35 v36 v37 v38 v39 v40 W3 B A5 c5 hL
  dsimp only
  obtain ⟨hB, hBc, hR5, hb3⟩ := hL
  obtain ⟨hu2, hR2, hW2, hord, hbig, hr1, hs1⟩ := HX.out
  have hx2 := HX2.out
  have hW2s := hW2.size
  have hW3 : Below W.heap.size W W3 := hW2.trans (hb3.mono hW2s)
  have hu3 : Boxed W3 b 38 (.slice Au cur.length cu) := (hb3.block b (by omega)).trans hu2
  have hR3 := Kd.R_below hR2 hb3
  have hul := Kd.R_lt hR2
  have hub := Kd.R_base hR2
  have hune := Kd.R_ne hR2 hu2 (show (47 : Nat) ≠ 38 by decide)
  have hx5 : k47.M W3 n0 (fun k => W2.heap.size ≤ k) ⟨c.f0, c.f1⟩ [.int .i64 c.f0.f0, .int .u8 c.f0.f1, .string c.f0.f2, .int .i64 c.f0.f3, .slice A5 c.f1.length c5] := k47_mkM W3 n0 _ ⟨c.f0, c.f1⟩ (Kd.R_lower (Kd.R_mono (Kd.R_bound hR5) fun k hk => hk.2.1) (by omega))
  have k0 : W3.cell? ⟨W.heap.size, 5, none⟩ = some (.bool c.f2) := cell_below hb3 (by simp [World.cell?, hx2, cells6])
  have hb0 := hu3.cell
  have hf0 := hu3.frozen
  have hbl3 := hu3.lt
  have b0 : W3.cell? ⟨B, 0, none⟩ = some (.int .i64 c.f0.f0) := by simp [World.cell?, hBc]
  have b1 : W3.cell? ⟨B, 1, none⟩ = some (.int .u8 c.f0.f1) := by simp [World.cell?, hBc]
  have b2 : W3.cell? ⟨B, 2, none⟩ = some (.string c.f0.f2) := by simp [World.cell?, hBc]
  have b3 : W3.cell? ⟨B, 3, none⟩ = some (.int .i64 c.f0.f3) := by simp [World.cell?, hBc]
  have b4 : W3.cell? ⟨B, 4, none⟩ = some (.slice A5 c.f1.length c5) := by simp [World.cell?, hBc]
  have HF := Lib.hid (And.intro hu3 (And.intro hR3 (And.intro hW3 (And.intro hBc (And.intro hR5 (And.intro hb3 (And.intro hord (And.intro hbig (And.intro hul (And.intro hub (And.intro hune hx5)))))))))))
  have hn3 := hW3.size
  clear hBc hR5 hb3 hx2 hu2 hR2 hW2 hord hbig hr1 hs1 hW3 hu3 hR3 hul hub hune hx5
  cases his : isB cur c.f0 <;> cases hgo : c.f2
  all_goals rw [hgo] at k0
  · have HI : Hid (stepB cur c = cur.insertIdx (cntB cur c.f0) ⟨c.f0, c.f1⟩) := by unfold stepB; rw [his, hgo]; exact Lib.hid rfl
    clear his hgo
    go_wp2_with fail
    obtain ⟨hu3, hR3, hW3, hBc, hR5, hb3, hord, hbig, hul, hub, hune, hx5⟩ := HF.out
    have HA := World.alloc_heap_new W3 (Obj.cells ([.int .i64 c.f0.f0, .int .u8 c.f0.f1, .string c.f0.f2, .int .i64 c.f0.f3, .slice A5 c.f1.length c5] : List Value).toArray 47)
    refine (insFact_any (.slice Au cur.length cu) cur ⟨c.f0, c.f1⟩ (cntB cur c.f0) (cntB_le _ _) [.int .i64 c.f0.f0, .int .u8 c.f0.f1, .string c.f0.f2, .int .i64 c.f0.f3, .slice A5 c.f1.length c5] W3.heap.size _ n0 (by simp; omega) (fun _ => True) (fun k => W2.heap.size ≤ k) (Kd.R_alloc hR3 _) (fun _ _ => trivial) HA (fun e => by have := hul _ e.symm; have := hb3.size; omega) (Kd.M_alloc hx5 _) (fun k hk => ⟨trivial, fun e => by have := hul _ e.symm; omega⟩) hbig).mono ?_
    rintro e W4 ⟨v', rfl, hR4, hg4, hown⟩
    obtain ⟨A6, c6, rfl⟩ := Kd.R_slice hR4
    have hW4 : Below n0 W W4 := ((hW3.mono hn0).alloc (by omega) _).grown hg4 (by simp; omega) hub
    have hu4 : Boxed W4 b 38 (.slice Au cur.length cu) := (hg4.block b (by simp; omega) hune).trans ((heap_alloc_old W3 _ hbl3).trans hu3)
    have hD4 : ∀ (D : Nat) (x : Option (List Deferred)), W.heap[D]? = some (.deferred x) → (W4.setCell ⟨b, 0, none⟩ (.slice A6 (cur.insertIdx (cntB cur c.f0) ⟨c.f0, c.f1⟩).length c6)).heap[D]? = some (.deferred x) := fun D x hD => by
      have h3 : W3.heap[D]? = some (.deferred x) := (hW3.block D (Array.getElem?_eq_some_iff.1 hD).1).trans hD
      have hDl := (Array.getElem?_eq_some_iff.1 h3).1
      have hDb : D ≠ b := fun e => by rw [e] at h3; have := hu3.symm.trans h3; cases this
      have hDo : some D ≠ (Value.slice Au cur.length cu).ownBlock := fun e => by
        obtain ⟨cells, hc⟩ := Kd.R_typed hR3 D e.symm
        rw [h3] at hc; cases hc
      exact (Below.heap_setCell _ _ _ D hDb).trans ((hg4.block D (by simp; omega) hDo).trans ((heap_alloc_old W3 _ hDl).trans h3))
    have HZ := Lib.hid (And.intro hR4 (And.intro hW4 (And.intro hu4 hD4)))
    have hb4 := hu4.cell
    have hf4 := hu4.frozen
    clear hu3 hR3 hW3 hBc hR5 hb3 hord hbig hul hub hune hx5 hR4 hg4 hown hW4 hu4 hD4 HA
    go_wp2_with fail
    obtain ⟨hR4, hW4, hu4, hD4⟩ := HZ.out
    refine HQ.out _ _ _ _ _ _ _ _ _ _ _ _ _ _ _ _ _ _ _ _ _ _ _ _ _ _ _ _ _ _ _ _ _ _ _ _ _ _ _ _ _ _ _ _ _ _ _ _ _ (blk_put hu4 0 _ rfl) ?_ ?_ ?_
    · rw [HI.out]
      exact Kd.R_set hR4 hu4 (by decide) 0 _
    · exact hW4.setCell (p := ⟨b, 0, none⟩) hnb _
    · exact fun D x hD => hD4 D x hD
  · have HI : Hid (stepB cur c = cur) := by unfold stepB; rw [his, hgo]; exact Lib.hid rfl
    clear his hgo
    go_wp2_with fail
    obtain ⟨hu3, hR3, hW3, hBc, hR5, hb3, hord, hbig, hul, hub, hune, hx5⟩ := HF.out
    refine HQ.out _ _ _ _ _ _ _ _ _ _ _ _ _ _ _ _ _ _ _ _ _ _ _ _ _ _ _ _ _ _ _ _ _ _ _ _ _ _ _ _ _ _ _ _ _ _ _ _ W3 hu3 ?_ (hW3.mono hn0) fun D x hD => (hW3.block D (Array.getElem?_eq_some_iff.1 hD).1).trans hD
    rw [HI.out]
    exact hR3
  · obtain ⟨hi, hik⟩ := isB_at his
    have HI : Hid (stepB cur c = cur.set (cntB cur c.f0) ⟨c.f0, c.f1⟩) := by unfold stepB; rw [his, hgo]; exact Lib.hid rfl
    clear his hgo hik
    generalize cntB cur c.f0 = i at *
    obtain ⟨hu3, hR3, hW3, hBc, hR5, hb3, hord, hbig, hul, hub, hune, hx5⟩ := HF.out
    rcases R_form hR3 with ⟨_, hnil⟩ | ⟨g, cap, L, inner, hv, hok, hbg, hgL, hnc, hcm, hL, htake, hlen, hreps⟩
    · rw [hnil] at hi; simp at hi
    injection hv with e1 _ e2
    subst e1 e2
    have hL : L.length = cu * 5 := hL
    have hi5 : i * 5 + 5 ≤ L.length := by omega
    have ci0 : (0 : Int) ≤ (i : Int) := by omega
    have ci1 : (i : Int) < (cur.length : Int) := by omega
    have ci2 : (i : Int) < (cu : Int) := by omega
    have g0 : W3.cell? ⟨g, i * 5, none⟩ = some (L[i * 5]'(by omega)) := by simp [World.cell?, hgL, show i * 5 < L.length by omega]
    have g1 : W3.cell? ⟨g, i * 5 + 1, none⟩ = some (L[i * 5 + 1]'(by omega)) := by simp [World.cell?, hgL, show i * 5 + 1 < L.length by omega]
    have g2 : W3.cell? ⟨g, i * 5 + 2, none⟩ = some (L[i * 5 + 2]'(by omega)) := by simp [World.cell?, hgL, show i * 5 + 2 < L.length by omega]
    have g3 : W3.cell? ⟨g, i * 5 + 3, none⟩ = some (L[i * 5 + 3]'(by omega)) := by simp [World.cell?, hgL, show i * 5 + 3 < L.length by omega]
    have g4 : W3.cell? ⟨g, i * 5 + 4, none⟩ = some (L[i * 5 + 4]'(by omega)) := by simp [World.cell?, hgL, show i * 5 + 4 < L.length by omega]
    have gf : ∀ o, W3.frozen? ⟨g, o, none⟩ = false := fun o => by simp [World.frozen?, hgL]
    generalize L[i * 5] = x0 at *
    generalize L[i * 5 + 1] = x1 at *
    generalize L[i * 5 + 2] = x2 at *
    generalize L[i * 5 + 3] = x3 at *
    generalize L[i * 5 + 4] = x4 at *
    have HG := Lib.hid (And.intro hgL (And.intro hnc (And.intro hcm (And.intro hL (And.intro htake (And.intro hlen (And.intro hreps (And.intro hok hbg))))))))
    clear hu3 hR3 hW3 hBc hR5 hb3 hord hbig hul hub hune hx5 hgL hnc hcm hL htake hlen hreps hok hbg hi5
    go_wp2_with fail
    obtain ⟨hgL, hnc, hcm, hL, htake, hlen, hreps, hok, hbg⟩ := HG.out
    obtain ⟨hu3, hR3, hW3, hBc, hR5, hb3, hord, hbig, hul, hub, hune, hx5⟩ := HF.out
    obtain ⟨hgS, hgr⟩ := set_five hgL (i * 5) (.int .i64 c.f0.f0) (.int .u8 c.f0.f1) (.string c.f0.f2) (.int .i64 c.f0.f3) (.slice A5 c.f1.length c5) (by omega)
    have hgne : ∀ k, W2.heap.size ≤ k → True ∧ some k ≠ some g := fun k hk => ⟨trivial, fun e => by have := hul g rfl; injection e with e; omega⟩
    have hR4 := R_setAt (d := k47) (e := 47) hok hbg hnc hcm hL htake hlen hreps hi (k47.M_mono hgne hx5) rfl hgr hgS
    have hu4 := (hgr.block b hbl3 hune).trans hu3
    refine HQ.out _ _ _ _ _ _ _ _ _ _ _ _ _ _ _ _ _ _ _ _ _ _ _ _ _ _ _ _ _ _ _ _ _ _ _ _ _ _ _ _ _ _ _ _ _ _ _ _ _ hu4 ?_ ?_ ?_
    · rw [HI.out]; exact hR4
    · exact (hW3.mono hn0).grown hgr (by omega) hub
    · intro D x hD
      have h3 : W3.heap[D]? = some (.deferred x) := (hW3.block D (Array.getElem?_eq_some_iff.1 hD).1).trans hD
      have hDo : some D ≠ some g := fun e => by
        injection e with e
        rw [e, hgL] at h3; cases h3
      exact (hgr.block D (Array.getElem?_eq_some_iff.1 h3).1 hDo).trans h3
  · obtain ⟨hi, hik⟩ := isB_at his
    have HI : Hid (stepB cur c = cur.eraseIdx (cntB cur c.f0)) := by unfold stepB; rw [his, hgo]; exact Lib.hid rfl
    clear his hgo hik
    have ci : (cntB cur c.f0 : Int) ≤ 9223372036854775806 := by have := HF.out.2.2.2.2.2.2.2.1; omega
    go_wp2_with fail
    obtain ⟨hu3, hR3, hW3, hBc, hR5, hb3, hord, hbig, hul, hub, hune, hx5⟩ := HF.out
    refine (delFact_any (.slice Au cur.length cu) cur (cntB cur c.f0) W3 n0 (fun _ => True) hR3 hi).mono ?_
    rintro e W4 ⟨v', rfl, hR4, hg4, hown⟩
    obtain ⟨A6, c6, rfl⟩ := Kd.R_slice hR4
    have hW4 : Below n0 W W4 := (hW3.mono hn0).grown hg4 (by omega) hub
    have hu4 : Boxed W4 b 38 (.slice Au cur.length cu) := (hg4.block b hbl3 hune).trans hu3
    have hD4 : ∀ (D : Nat) (x : Option (List Deferred)), W.heap[D]? = some (.deferred x) → (W4.setCell ⟨b, 0, none⟩ (.slice A6 (cur.eraseIdx (cntB cur c.f0)).length c6)).heap[D]? = some (.deferred x) := fun D x hD => by
      have h3 : W3.heap[D]? = some (.deferred x) := (hW3.block D (Array.getElem?_eq_some_iff.1 hD).1).trans hD
      have hDl := (Array.getElem?_eq_some_iff.1 h3).1
      have hDb : D ≠ b := fun e => by rw [e] at h3; have := hu3.symm.trans h3; cases this
      have hDo : some D ≠ (Value.slice Au cur.length cu).ownBlock := fun e => by
        obtain ⟨cells, hc⟩ := Kd.R_typed hR3 D e.symm
        rw [h3] at hc; cases hc
      exact (Below.heap_setCell _ _ _ D hDb).trans ((hg4.block D hDl hDo).trans h3)
    have HZ := Lib.hid (And.intro hR4 (And.intro hW4 (And.intro hu4 hD4)))
    have hb4 := hu4.cell
    have hf4 := hu4.frozen
    clear hu3 hR3 hW3 hBc hR5 hb3 hord hbig hul hub hune hx5 hR4 hg4 hown hW4 hu4 hD4
    go_wp2_with fail
    obtain ⟨hR4, hW4, hu4, hD4⟩ := HZ.out
    refine HQ.out _ _ _ _ _ _ _ _ _ _ _ _ _ _ _ _ _ _ _ _ _ _ _ _ _ _ _ _ _ _ _ _ _ _ _ _ _ _ _ _ _ _ _ _ _ _ _ _ _ (blk_put hu4 0 _ rfl) ?_ ?_ ?_
    · rw [HI.out]
      exact Kd.R_set hR4 hu4 (by decide) 0 _
    · exact hW4.setCell (p := ⟨b, 0, none⟩) hnb _
    · exact fun D x hD => hD4 D x hD
end Go.Proofs.Ytbhmncenbpdcjaa.P
end
section
/- fact.Apply: the loop of changes. -/
namespace Go.Proofs.Ytbhmncenbpdcjaa.P
open Go Go.Shelf Go.RowKit Go.Proofs.YtbhmncenbpdcjaaW.PrintWords Go.Proofs.YtbhmncenbpdcjaaW.PrintLast Go.Proofs.YtbhmncenbpdcjaaW.PrintMore
set_option linter.unusedVariables false
set_option linter.unusedSimpArgs false
set_option maxRecDepth 100000 in
set_option maxHeartbeats 4000000 in
theorem apply_exit (u0 u1 u2 u3 u4 u5 u6 u7 u8 u9 u10 u11 u12 u13 u14 u15 u16 u17 u18 u19 u20 u21 u22 u25 u26 u27 u28 u29 u30 u31 u32 u33 u34 u35 u36 u37 u38 u39 u40 u41 u42 u43 u44 u45 u46 u47 u48 u49 u50 u51 u52 u53 u54 u55 u56 u57 u58 u59 u60 u61 u62 u63 u64 u65 u66 u67 u68 : Value) (ds : List Deferred) (l1 : List Ch) (W : World) (Q : Exit → Act → World → Prop)
    (hQ : ∀ v25, Q (.exit 2) { tmps := #[u0, u1, u2, u3, u4, u5, u6, u7, u8, u9, u10, u11, u12, u13, u14, u15, u16, u17, u18, u19, u20, u21, u22, .int .i64 l1.length, .int .i64 l1.length, v25, u26, u27, u28, u29, u30, u31, u32, u33, u34, u35, u36, u37, u38, u39, u40, u41, u42, u43, u44, u45, u46, u47, u48, u49, u50, u51, u52, u53, u54, u55, u56, u57, u58, u59, u60, u61, u62, u63, u64, u65, u66, u67, u68], defers := ds } W) :
    Code.wp Try.prog applyBody Q { tmps := #[u0, u1, u2, u3, u4, u5, u6, u7, u8, u9, u10, u11, u12, u13, u14, u15, u16, u17, u18, u19, u20, u21, u22, .int .i64 l1.length, .int .i64 l1.length, u25, u26, u27, u28, u29, u30, u31, u32, u33, u34, u35, u36, u37, u38, u39, u40, u41, u42, u43, u44, u45, u46, u47, u48, u49, u50, u51, u52, u53, u54, u55, u56, u57, u58, u59, u60, u61, u62, u63, u64, u65, u66, u67, u68], defers := ds } W := by
  conv => arg 2; whnf
  have HQ := Lib.hid hQ
  clear hQ
  go_wp2_with fail
  exact HQ.out _
/-- Between two rounds. -/
def AI (u0 u1 u2 u3 u4 u6 u7 u12 u13 u14 u15 u16 u17 u18 u19 u20 u21 u68 : Value) (ds : List Deferred) (b n0 D : Nat) (A1 : Option Addr) (c1 : Nat) (l0 : List F) (l1 : List Ch) (w0 : World) (a : Act) (W : World) : Prop :=
  ∃ (j : Nat) (u : Value) (v8 v9 v10 v11 v25 v26 v27 v28 v29 v30 v31 v32 v33 v34 v35 v36 v37 v38 v39 v40 v41 v42 v43 v44 v45 v46 v47 v48 v49 v50 v51 v52 v53 v54 v55 v56 v57 v58 v59 v60 v61 v62 v63 v64 v65 v66 v67 : Value), a = { tmps := #[u0, u1, u2, u3, u4, .pointer (some ⟨b, 0, none⟩), u6, u7, v8, v9, v10, v11, u12, u13, u14, u15, u16, u17, u18, u19, u20, u21, .slice A1 l1.length c1, .int .i64 l1.length, .int .i64 j, v25, v26, v27, v28, v29, v30, v31, v32, v33, v34, v35, v36, v37, v38, v39, v40, v41, v42, v43, v44, v45, v46, v47, v48, v49, v50, v51, v52, v53, v54, v55, v56, v57, v58, v59, v60, v61, v62, v63, v64, v65, v66, v67, u68], defers := ds } ∧ j ≤ l1.length ∧
    Boxed W b 38 u ∧ Kd.R k47 47 W n0 (fun _ => True) u (applyB l0 (l1.take j)) ∧ Below n0 w0 W ∧ W.heap[D]? = some (.deferred (some []))
set_option maxRecDepth 100000 in
set_option maxHeartbeats 4000000 in
theorem apply_loop (u0 u1 u2 u3 u4 u6 u7 u8 u9 u10 u11 u12 u13 u14 u15 u16 u17 u18 u19 u20 u21 u25 u26 u27 u28 u29 u30 u31 u32 u33 u34 u35 u36 u37 u38 u39 u40 u41 u42 u43 u44 u45 u46 u47 u48 u49 u50 u51 u52 u53 u54 u55 u56 u57 u58 u59 u60 u61 u62 u63 u64 u65 u66 u67 u68 : Value) (ds : List Deferred) (b n0 D : Nat) (A1 : Option Addr) (c1 : Nat) (l0 : List F) (l1 : List Ch) (w0 W : World) (Q : Exit → Act → World → Prop) (u : Value)
    (hr1 : ∀ W, Below n0 w0 W → Kd.C k53 W A1 l1.length l1) (hc1 : l1.length ≤ c1) (hs1 : ∀ x ∈ l1, x.f1.length < 140737488355328)
    (hn0 : n0 ≤ w0.heap.size) (hnb : n0 ≤ b) (hord : Ord l0) (hbig : (l0.length + l1.length) * 64 ≤ 140737488355328)
    (hu : Boxed W b 38 u) (hR : Kd.R k47 47 W n0 (fun _ => True) u l0) (hW : Below n0 w0 W) (hD : W.heap[D]? = some (.deferred (some [])))
    (hQ : ∀ (v8 v9 v10 v11 v25 v26 v27 v28 v29 v30 v31 v32 v33 v34 v35 v36 v37 v38 v39 v40 v41 v42 v43 v44 v45 v46 v47 v48 v49 v50 v51 v52 v53 v54 v55 v56 v57 v58 v59 v60 v61 v62 v63 v64 v65 v66 v67 u' : Value) (W' : World), Boxed W' b 38 u' → Kd.R k47 47 W' n0 (fun _ => True) u' (applyB l0 l1) → Below n0 w0 W' → W'.heap[D]? = some (.deferred (some [])) →
      Q (.exit 2) { tmps := #[u0, u1, u2, u3, u4, .pointer (some ⟨b, 0, none⟩), u6, u7, v8, v9, v10, v11, u12, u13, u14, u15, u16, u17, u18, u19, u20, u21, .slice A1 l1.length c1, .int .i64 l1.length, .int .i64 l1.length, v25, v26, v27, v28, v29, v30, v31, v32, v33, v34, v35, v36, v37, v38, v39, v40, v41, v42, v43, v44, v45, v46, v47, v48, v49, v50, v51, v52, v53, v54, v55, v56, v57, v58, v59, v60, v61, v62, v63, v64, v65, v66, v67, u68], defers := ds } W') :
    Code.wp Try.prog (.loop applyBody) Q { tmps := #[u0, u1, u2, u3, u4, .pointer (some ⟨b, 0, none⟩), u6, u7, u8, u9, u10, u11, u12, u13, u14, u15, u16, u17, u18, u19, u20, u21, .slice A1 l1.length c1, .int .i64 l1.length, .int .i64 0, u25, u26, u27, u28, u29, u30, u31, u32, u33, u34, u35, u36, u37, u38, u39, u40, u41, u42, u43, u44, u45, u46, u47, u48, u49, u50, u51, u52, u53, u54, u55, u56, u57, u58, u59, u60, u61, u62, u63, u64, u65, u66, u67, u68], defers := ds } W := by
  refine wp_loop (AI u0 u1 u2 u3 u4 u6 u7 u12 u13 u14 u15 u16 u17 u18 u19 u20 u21 u68 ds b n0 D A1 c1 l0 l1 w0) (fun a _ => l1.length - (intOf (a.tmps.getD 24 undef)).toNat) ?_ ?_
  · exact ⟨0, u, u8, u9, u10, u11, u25, u26, u27, u28, u29, u30, u31, u32, u33, u34, u35, u36, u37, u38, u39, u40, u41, u42, u43, u44, u45, u46, u47, u48, u49, u50, u51, u52, u53, u54, u55, u56, u57, u58, u59, u60, u61, u62, u63, u64, u65, u66, u67, rfl, Nat.zero_le _, hu, hR, hW, hD⟩
  · rintro a wr ⟨j, ur, v8, v9, v10, v11, v25, v26, v27, v28, v29, v30, v31, v32, v33, v34, v35, v36, v37, v38, v39, v40, v41, v42, v43, v44, v45, v46, v47, v48, v49, v50, v51, v52, v53, v54, v55, v56, v57, v58, v59, v60, v61, v62, v63, v64, v65, v66, v67, rfl, hj, hur, hRr, hWr, hDr⟩
    rcases Nat.lt_or_ge j l1.length with hlt | hge
    · obtain ⟨Au, cu, rfl, _⟩ := Kd.R_reads hRr
      have hcl : (applyB l0 (l1.take j)).length ≤ l0.length + j := by have := apply_length (l1.take j) l0; rw [List.length_take] at this; omega
      refine apply_round u0 u1 u2 u3 u4 u6 u7 v8 v9 v10 v11 u12 u13 u14 u15 u16 u17 u18 u19 u20 u21 v25 v26 v27 v28 v29 v30 v31 v32 v33 v34 v35 v36 v37 v38 v39 v40 v41 v42 v43 v44 v45 v46 v47 v48 v49 v50 v51 v52 v53 v54 v55 v56 v57 v58 v59 v60 v61 v62 v63 v64 v65 v66 v67 u68 ds b j n0 A1 c1 l1 Au cu (applyB l0 (l1.take j)) wr _ hlt (hr1 wr hWr) hc1 hs1 hur hRr (by have := hWr.size; omega) hnb (ord_apply _ _ hord) (by omega) ?_
      intro x8 x9 x10 x11 x25 x26 x27 x28 x29 x30 x31 x32 x33 x34 x35 x36 x37 x38 x39 x40 x41 x42 x43 x44 x45 x46 x47 x48 x49 x50 x51 x52 x53 x54 x55 x56 x57 x58 x59 x60 x61 x62 x63 x64 x65 x66 x67 u' W' h1 h2 h3 h4
      refine ⟨⟨j + 1, u', x8, x9, x10, x11, x25, x26, x27, x28, x29, x30, x31, x32, x33, x34, x35, x36, x37, x38, x39, x40, x41, x42, x43, x44, x45, x46, x47, x48, x49, x50, x51, x52, x53, x54, x55, x56, x57, x58, x59, x60, x61, x62, x63, x64, x65, x66, x67, by rw [show ((j : Int) + 1) = ((j + 1 : Nat) : Int) by omega], hlt, h1, ?_, hWr.trans h3, h4 _ _ hDr⟩, ?_⟩
      · have hnext : applyB l0 (l1.take (j + 1)) = stepB (applyB l0 (l1.take j)) (rd_T53 l1 (j : Nat)) := by
          rw [List.take_add_one, List.getElem?_eq_getElem hlt]
          simp only [Option.toList]
          rw [apply_snoc]
          congr 1
          unfold rd_T53
          simp [List.getD, hlt]
        rw [hnext]
        exact h2
      · show l1.length - (intOf (Value.int .i64 ((j : Int) + 1))).toNat < l1.length - (intOf (Value.int .i64 (j : Int))).toNat
        simp [intOf]
        omega
    · obtain rfl : j = l1.length := by omega
      rw [List.take_length] at hRr
      refine apply_exit u0 u1 u2 u3 u4 _ u6 u7 v8 v9 v10 v11 u12 u13 u14 u15 u16 u17 u18 u19 u20 u21 _ v25 v26 v27 v28 v29 v30 v31 v32 v33 v34 v35 v36 v37 v38 v39 v40 v41 v42 v43 v44 v45 v46 v47 v48 v49 v50 v51 v52 v53 v54 v55 v56 v57 v58 v59 v60 v61 v62 v63 v64 v65 v66 v67 u68 ds l1 wr _ ?_
      intro x25
      exact hQ v8 v9 v10 v11 x25 v26 v27 v28 v29 v30 v31 v32 v33 v34 v35 v36 v37 v38 v39 v40 v41 v42 v43 v44 v45 v46 v47 v48 v49 v50 v51 v52 v53 v54 v55 v56 v57 v58 v59 v60 v61 v62 v63 v64 v65 v66 v67 ur wr hur hRr hWr hDr
end Go.Proofs.Ytbhmncenbpdcjaa.P
end
section
/- fact.Apply: its contract. -/
namespace Go.Proofs.Ytbhmncenbpdcjaa.P
open Go Go.Shelf Go.RowKit Go.Proofs.YtbhmncenbpdcjaaW.PrintWords Go.Proofs.YtbhmncenbpdcjaaW.PrintLast Go.Proofs.YtbhmncenbpdcjaaW.PrintMore
set_option linter.unusedVariables false
set_option linter.unusedSimpArgs false
attribute [local go_sem] Oper.semAt_some
theorem isOrdered_any (A : Option Addr) (c : Nat) (l : List F) (w : World) (hr : Kd.C k47 w A l.length l) (hc : l.length ≤ c) :
    Calls Try.prog 34 #[.slice A l.length c] w fun e w' => e = .returned (.bool (ordB l)) ∧ Below w.heap.size w w' :=
  fact_isOrdered.calls (l.length + 1) A c l _ w hr hc (isOrdered_f l hr.2.1 _ (Nat.lt_succ_self _))
theorem own_any (A : Option Addr) (c : Nat) (l : List F) (w : World) :
    Calls Try.prog 35 #[.slice A l.length c] w fun e w' => e = .returned (.func (.func 53) #[] #[.pointer (some ⟨w.heap.size, 0, none⟩)]) ∧ w' = w.alloc (.cells #[.slice A l.length c] 38) := by
  go_enter Try.func35, Try.ntmps35
  go_wp2
  go_ret
  exact ⟨rfl, rfl⟩
def cells5 (p : Own) : List Value := [.int .i64 p.1.f0.f0, .int .u8 p.1.f0.f1, .string p.1.f0.f2, .int .i64 p.1.f0.f3, p.2]
def rowOf (ps : List Own) : List Value := ps.flatMap cells5
theorem rowOf_snoc (ps : List Own) (p : Own) : rowOf (ps ++ [p]) = rowOf ps ++ cells5 p := by simp [rowOf]
/-- A block of bytes is not a row of facts. -/
theorem own_ne {W : World} {n₀ n size : Nat} {u : Value} {xs : List Value} {k : Nat} {cells : Array Value} (h : W.ownsRow n₀ 47 size u n xs) (hk : W.heap[k]? = some (Obj.cells cells 5 (0, 0))) : some k ≠ u.ownBlock := by
  rcases h.2 with ⟨rfl, _⟩ | ⟨g, cap, cur, rfl, _, hgb, _⟩
  · simp [Value.ownBlock]
  · intro e
    obtain rfl : k = g := by simpa [Value.ownBlock] using e
    rw [hk] at hgb
    injection hgb with hgb
    injection hgb with _ h2 _
    cases h2
/-- What stands between two rounds. -/
def OutI (n₀ b : Nat) (w : World) (pre : List Own) (W : World) : Prop :=
  (∃ v, Boxed W b 38 v ∧ W.ownsRow n₀ 47 5 v pre.length (rowOf pre) ∧ True) ∧ Below n₀ w W
/-- What the loop has laid is a row of the call's own. -/
theorem rows_R {W : World} {n₀ : Nat} {u : Value} {ps : List Own} (h : W.ownsRow n₀ 47 5 u ps.length (rowOf ps)) (hg : ∀ p ∈ ps, OwnG n₀ p W) : Kd.R k47 47 W n₀ (fun _ => True) u (ps.map Prod.fst) := by
  have hne : ∀ p ∈ ps, k47.M W n₀ (fun k => True ∧ some k ≠ u.ownBlock) p.1 (cells5 p) := fun p hp => by
    refine k47_mkM W n₀ _ p.1 (v4 := p.2) (Kd.R_mono (Kd.R_bound (hg p hp)) fun k ⟨_, _, _, q, hq, cells, hc⟩ => ⟨trivial, ?_⟩)
    have : q = 5 := by simpa [Kd.int, Kd.scalar] using hq
    subst this
    exact own_ne h hc
  refine ⟨fun _ _ => trivial, rowOf ps, ⟨by rw [List.length_map]; exact h.1, by rw [List.length_map]; exact h.2⟩, ?_⟩
  clear h hg
  induction ps with
  | nil => exact Reps.none _ _
  | cons p ps ih =>
    show Reps _ _ (p.1 :: ps.map Prod.fst) (cells5 p ++ rowOf ps)
    have h1 := (Reps.none (k47.M W n₀ (fun k => True ∧ some k ≠ u.ownBlock)) 5).snoc (hne p (by simp)) rfl
    exact Kd.reps_append h1 (ih fun q hq => hne q (by simp [hq]))
set_option maxRecDepth 100000 in
set_option maxHeartbeats 4000000 in
theorem apply_ord (A0 : Option Addr) (c0 : Nat) (l0 : List F) (A1 : Option Addr) (c1 : Nat) (l1 : List Ch) (w : World) (hr0 : Kd.C k47 w A0 l0.length l0) (hc0 : l0.length ≤ c0) (hr1 : Kd.C k53 w A1 l1.length l1) (hc1 : l1.length ≤ c1)
    (ho : Ord l0) (hbig : (l0.length + l1.length) * 64 ≤ 140737488355328) (hs0 : ∀ x ∈ l0, x.f1.length < 140737488355328) (hs1 : ∀ x ∈ l1, x.f1.length < 140737488355328) :
    Calls Try.prog 16 #[.slice A0 l0.length c0, .slice A1 l1.length c1] w fun e w' => ∃ v, e = .returned v ∧ Kd.R k47 47 w' w.heap.size (fun _ => True) v (applyB l0 l1) ∧ Below w.heap.size w w' := by
  have HI := Lib.hid (fun W (hb : Below w.heap.size w W) => isOrdered_any A0 c0 l0 W (Kd.C_below hr0 hb) hc0)
  have hob : ordB l0 = true := (ordB_iff l0).2 ho
  rw [hob] at HI
  refine (callsIn_wide (n := 9)).1 ?_
  refine callsIn_of_wp_marks Try.func16 rfl trivial ?_ rfl
  simp only [Try.ntmps16, List.size_toArray, List.length_cons, List.length_nil, Nat.reduceAdd, Nat.reduceSub, Array.replicate_succ, Array.replicate_zero, List.push_toArray, List.append_toArray, List.nil_append, List.cons_append]
  gi_wp2_with fail
  refine ⟨trivial, (callsIn_wide.2 (HI.out w (Below.refl _ _))).mono ?_⟩
  rintro e w1 ⟨rfl, hb1⟩
  gi_wp2_with fail
  refine ⟨trivial, (callsIn_wide.2 (own_any A0 c0 l0 _)).mono ?_⟩
  rintro e w2 ⟨rfl, hw2⟩
  gi_wp2_with fail
  have hBelow : Below w.heap.size w ((w1.alloc (Obj.cells #[Value.slice none 0 0] 38)).alloc (Obj.cells #[Value.slice A0 l0.length c0] 38)) := (hb1.alloc hb1.size _).alloc (by simp; have := hb1.size; omega) _
  have hbox : Boxed ((w1.alloc (Obj.cells #[Value.slice none 0 0] 38)).alloc (Obj.cells #[Value.slice A0 l0.length c0] 38)) w1.heap.size 38 (.slice none 0 0) := (Boxed.new w1 _ _).alloc _
  have hboxl : ((w1.alloc (Obj.cells #[Value.slice none 0 0] 38)).alloc (Obj.cells #[Value.slice A0 l0.length c0] 38)).cell? ⟨w1.heap.size + 1, 0, none⟩ = some (.slice A0 l0.length c0) := by go_simp
  have hsz2 : ((w1.alloc (Obj.cells #[Value.slice none 0 0] 38)).alloc (Obj.cells #[Value.slice A0 l0.length c0] 38)).heap.size = w1.heap.size + 2 := by simp
  generalize (w1.alloc (Obj.cells #[Value.slice none 0 0] 38)).alloc (Obj.cells #[Value.slice A0 l0.length c0] 38) = WL at *
  have hlo : ∀ W, Below w.heap.size WL W → Kd.C k47 W A0 l0.length l0 := fun W hW => Kd.C_below hr0 (hBelow.trans hW)
  have h1s := hb1.size
  refine wpIn_rangeFunc_given (α := Own) rfl (by omega) (gf := 53) (lb := #[.pointer (some ⟨w1.heap.size + 1, 0, none⟩)]) rfl trivial (enters_of Try.func53 (by kernel_rfl) rfl)
    (own_iter 8 (w1.heap.size + 1) w.heap.size A0 c0 l0 hs0 WL hBelow.size hboxl (hlo WL (Below.refl _ _)) hlo) KpB.trans (fun W l o o' h1 h2 h3 => KpB.turn W l o o' (by have := hBelow.size; omega) h2 h3) (fun _ => rfl)
    (OutI w.heap.size w1.heap.size w) ?hI (ownS_from _ _ _) ?h0 (fun pre x a' W => pre.length < l0.length ∧ (∃ Av cv, x.2 = .slice Av x.1.f1.length cv) ∧ (∃ Bx, W.heap[Bx]? = some (.cells (cells5 x).toArray 47 (0, 0)) ∧ a' = { tmps := #[Value.slice A0 l0.length c0, Value.slice A1 l1.length c1, undef, undef, Value.slice none 0 0, Value.pointer (some { block := w1.heap.size, off := 0 }), .pointer (some ⟨Bx, 0, none⟩), undef, undef, undef, undef, undef, Value.slice A0 l0.length c0, Value.bool true, Value.bool false, Value.slice A0 l0.length c0, Value.func (Fn.func 53) #[] #[Value.pointer (some { block := w1.heap.size + 1, off := 0 })], encF x, undef, undef, undef, undef, undef, undef, undef, undef, undef, undef, undef, undef, undef, undef, undef, undef, undef, undef, undef, undef, undef, undef, undef, undef, undef, undef, undef, undef, undef, undef, undef, undef, undef, undef, undef, undef, undef, undef, undef, undef, undef, undef, undef, undef, undef, undef, undef, undef, undef, undef, undef], defers := [] })) ?hAx ?assign ?body ?done
  case hI => exact OwnFrom.and (Own.from (holdsRow_own w.heap.size w1.heap.size 38 47 5 (fun pre => pre.length) rowOf (fun _ _ => True)) _) (ownFrom_below (Nat.le_refl _) (by omega))
  case h0 => exact ⟨⟨_, hbox, World.ownsRow_nil _ _ _ _, trivial⟩, hBelow⟩
  case hAx =>
    rintro pre x a' _ A B row ⟨h1, h0, Bx, h2, h3⟩ hg hrow
    refine ⟨h1, h0, Bx, (hg.block Bx (Array.getElem?_eq_some_iff.1 h2).1 fun e => ?_).trans h2, h3⟩
    obtain ⟨_, o, ho, hc⟩ := hrow Bx e.symm
    rw [h2] at ho; injection ho with ho; subst ho; cases hc
  case assign =>
    rintro l pre ⟨y, v⟩ W K hi ⟨hlen, hg⟩ hK
    obtain ⟨Av, cv, hv⟩ := Kd.R_slice hg
    dsimp only at hv
    subst hv
    dsimp only [encF]
    gi_wp2
    have hbW : Below W.heap.size W (W.alloc (.cells (cells5 (y, .slice Av y.f1.length cv)).toArray 47)) := (Below.refl _ _).alloc (Nat.le_refl _) _
    have hns : w.heap.size ≤ W.heap.size := hi.2.size
    refine hK _ _ ((KeepsOthers.alloc _ _).from _) ⟨hbW.mono hns, fun k cells hk => (hbW.block k (Array.getElem?_eq_some_iff.1 hk).1).trans hk⟩ ?_ ⟨hlen, ⟨Av, cv, rfl⟩, W.heap.size, World.alloc_heap_new W _, rfl⟩
    obtain ⟨⟨u, hu1, hu2, _⟩, hu3⟩ := hi
    exact ⟨⟨u, hu1.alloc _, hu2.alloc _, trivial⟩, hu3.alloc hns _⟩
  case body =>
    rintro l pre ⟨y, v⟩ a' W ⟨⟨u, hu1, hu2, _⟩, hu3⟩ ⟨hlen, ⟨Av, cv, hv⟩, Bx, hBx, rfl⟩
    dsimp only at hv
    subst hv
    obtain ⟨i0, hi, hz0, hz1, hz2⟩ := info_parts info47
    have k0 : W.cell? ⟨Bx, 0, none⟩ = some (.int .i64 y.f0.f0) := by simp [World.cell?, hBx, cells5]
    have k1 : W.cell? ⟨Bx, 1, none⟩ = some (.int .u8 y.f0.f1) := by simp [World.cell?, hBx, cells5]
    have k2 : W.cell? ⟨Bx, 2, none⟩ = some (.string y.f0.f2) := by simp [World.cell?, hBx, cells5]
    have k3 : W.cell? ⟨Bx, 3, none⟩ = some (.int .i64 y.f0.f3) := by simp [World.cell?, hBx, cells5]
    have k4 : W.cell? ⟨Bx, 4, none⟩ = some (.slice Av y.f1.length cv) := by simp [World.cell?, hBx, cells5]
    have hc0 := hu1.cell
    have hf0 := hu1.frozen
    have hns : w.heap.size ≤ W.heap.size := hu3.size
    dsimp only [encF]
    gi_wp2_with (gi_at_builtin; refine wpListIn_append_own _ rfl _ _ 38 rfl w.heap.size 47 i0 _ 5 64 Try.underlying38 hi hz0 hz1 hz2 rfl (by decide) _ _ _ rfl (hu2.alloc _) ⟨W.heap.size, 0, none⟩ 1 1 (cells5 (y, .slice Av y.f1.length cv)) rfl rfl (blk_cells (o := 0) (World.alloc_heap_new W _) (fun j u hj => by rw [Nat.zero_add]; exact hj)) (by simp [cells5, Value.oneCell']) (by unfold maxLen; omega) (by omega) (by simp; omega) ?_; intro v' w4 hown' hgrow _; obtain ⟨g', cap', rfl⟩ := ownsRow_succ hown'; obtain ⟨hv1, hv2, hr2, hk2, hb2⟩ := hu1.appended (by decide) hu2 hns (by omega) hown' hgrow; have hc1 := hv1.cell; have hf1 := hv1.frozen)
    have hrow : (w4.setCell ⟨w1.heap.size, 0, none⟩ (.slice (some ⟨g', 0, none⟩) (pre.length + 1) cap')).ownsRow w.heap.size 47 5 (.slice (some ⟨g', 0, none⟩) (pre.length + 1) cap') (pre ++ [((y, .slice Av y.f1.length cv) : Own)]).length (rowOf (pre ++ [((y, .slice Av y.f1.length cv) : Own)])) := by
      rw [rowOf_snoc, List.length_append]
      exact hr2
    refine ⟨hk2.from _, ⟨hb2, fun k cells hk => ?_⟩, ⟨⟨_, hv2, hrow, trivial⟩, hu3.trans hb2⟩⟩
    have hkl := (Array.getElem?_eq_some_iff.1 hk).1
    have hkb : k ≠ w1.heap.size := fun e => by
      have := hu1
      unfold Boxed at this
      rw [e] at hk
      rw [hk] at this
      injection this with this
      injection this with _ h2 _
      cases h2
    refine (Below.heap_setCell _ _ _ k hkb).trans ((hgrow.block k (by simp; omega) (own_ne hu2 hk)).trans ?_)
    exact (heap_alloc_old W _ hkl).trans hk
  case done =>
    rintro D ps W hD ⟨hps, hgs⟩ ⟨⟨u, hu1, hu2, _⟩, hu3⟩ hK
    have hR := rows_R hu2 hgs
    rw [hps] at hR
    have hbase : w.heap.size ≤ w1.heap.size := by omega
    have HV := Lib.hid (And.intro (show Boxed W w1.heap.size 38 u from hu1) (And.intro hR (And.intro hu3 hK)))
    have HW := Lib.hid (And.intro hr1 (And.intro ho (And.intro hbig (And.intro hs0 hs1))))
    have hl1 : l1.length ≤ 9223372036854775807 := hr1.2.1
    clear hu1 hu2 hu3 hK hR hgs hps hlo hbox hboxl hr0 hr1 ho hbig hs0 hs1 HI
    gi_wp2
    refine wpIn_wide.2 ?_
    obtain ⟨hu1, hR, hu3, hK⟩ := HV.out
    obtain ⟨hr1, ho, hbig, hs0, hs1⟩ := HW.out
    refine apply_loop _ _ _ _ _ _ _ _ _ _ _ _ _ _ _ _ _ _ _ _ _ _ _ _ _ _ _ _ _ _ _ _ _ _ _ _ _ _ _ _ _ _ _ _ _ _ _ _ _ _ _ _ _ _ _ _ _ _ _ _ _ _ _ _ _ _ w1.heap.size w.heap.size D A1 c1 l0 l1 w W _ u (fun W' hb => Kd.C_below hr1 hb) hc1 hs1 (Nat.le_refl _) hbase ho hbig hu1 hR hu3 hK ?_
    intro v8 v9 v10 v11 v25 v26 v27 v28 v29 v30 v31 v32 v33 v34 v35 v36 v37 v38 v39 v40 v41 v42 v43 v44 v45 v46 v47 v48 v49 v50 v51 v52 v53 v54 v55 v56 v57 v58 v59 v60 v61 v62 v63 v64 v65 v66 v67 u' W' hu' hR' hW' hD'
    dsimp only
    obtain ⟨Au, cu, rfl⟩ := Kd.R_slice hR'
    have hb0 := hu'.cell
    have HZ := Lib.hid (And.intro hR' (And.intro hW' hD'))
    clear hu' hR' hW' hD'
    gi_wp2
    obtain ⟨hR', hW', hD'⟩ := HZ.out
    have hgp : W'.grownBy _ (some D) := grownBy_putObj' W' D (.deferred none)
    refine ⟨by simp, .inl ⟨_, _, rfl, run_takeDeferred hD', ?_⟩⟩
    refine ⟨.slice Au (applyB l0 l1).length cu, ?_, _, rfl, ?_, hW'.grown hgp hW'.size fun k hk => ?_⟩
    · simp [results, Try.f16, go_sem]
    · refine Kd.R_mono (Kd.R_grown (Kd.R_bound hR') hgp fun k hk e => ?_) fun _ _ => trivial
      obtain ⟨_, _, _, _, _, cells, hc⟩ := hk
      injection e with e
      rw [e, hD'] at hc
      cases hc
    · injection hk with hk
      omega
end Go.Proofs.Ytbhmncenbpdcjaa.P
end
section
/- fact.Same: its contract. -/
namespace Go.Proofs.Ytbhmncenbpdcjaa.P
open Go Go.Shelf Go.RowKit Go.Proofs.YtbhmncenbpdcjaaW.PrintWords Go.Proofs.YtbhmncenbpdcjaaW.PrintLast Go.Proofs.YtbhmncenbpdcjaaW.PrintMore
set_option linter.unusedVariables false
set_option linter.unusedSimpArgs false
attribute [local go_sem] Oper.semAt_some
attribute [local go_sem high] eqA30
def encV (x : F) (A : Option Addr) (c : Nat) : Value := .agg #[.int .i64 x.f0.f0, .int .u8 x.f0.f1, .string x.f0.f2, .int .i64 x.f0.f3, .slice A x.f1.length c]
theorem equal_any (A0 : Option Addr) (c0 : Nat) (l0 : List Int) (A1 : Option Addr) (c1 : Nat) (l1 : List Int) (w : World) (hr0 : Kd.C (Kd.int .u8) w A0 l0.length l0) (hc0 : l0.length ≤ c0) (hr1 : Kd.C (Kd.int .u8) w A1 l1.length l1) (hc1 : l1.length ≤ c1) :
    Calls Try.prog 44 #[.slice A0 l0.length c0, .slice A1 l1.length c1] w fun e w' => e = .returned (.bool (decide (l0 = l1))) ∧ Below w.heap.size w w' :=
  (slices_Equal_byte_byte.calls (l0.length + 1) A0 c0 l0 A1 c1 l1 _ w hr0 hc0 hr1 hc1 (equal_f l0 l1 hr0.2.1 _ (Nat.lt_succ_self _))).mono fun e w' ⟨he, hd⟩ => ⟨he, by obtain ⟨n, rfl⟩ := hd; exact pw_below_drewN (Below.refl _ _) n⟩
set_option maxRecDepth 100000 in
set_option maxHeartbeats 4000000 in
theorem same1_any (x y : F) (A0 : Option Addr) (c0 : Nat) (A1 : Option Addr) (c1 : Nat) (w : World) (hr0 : Kd.C (Kd.int .u8) w A0 x.f1.length x.f1) (hc0 : x.f1.length ≤ c0) (hr1 : Kd.C (Kd.int .u8) w A1 y.f1.length y.f1) (hc1 : y.f1.length ≤ c1) :
    Calls Try.prog 43 #[encV x A0 c0, encV y A1 c1] w fun e w' => e = .returned (.bool (factQ x y)) ∧ Below w.heap.size w w' := by
  have HE := Lib.hid (fun W (hb : Below w.heap.size w W) => equal_any A0 c0 x.f1 A1 c1 y.f1 W (Kd.C_below hr0 hb) hc0 (Kd.C_below hr1 hb) hc1)
  have HQ : Hid (keyQ x.f0 y.f0 = (x.f0.f0 == y.f0.f0 && (x.f0.f1 == y.f0.f1 && (x.f0.f2.toList == y.f0.f2.toList && (x.f0.f3 == y.f0.f3))))) := Lib.hid rfl
  have hb0 : Below w.heap.size w ((w.alloc (.cells #[.int .i64 x.f0.f0, .int .u8 x.f0.f1, .string x.f0.f2, .int .i64 x.f0.f3, .slice A0 x.f1.length c0] 47)).alloc (.cells #[.int .i64 y.f0.f0, .int .u8 y.f0.f1, .string y.f0.f2, .int .i64 y.f0.f3, .slice A1 y.f1.length c1] 47)) := ((Below.refl _ _).alloc (Nat.le_refl _) _).alloc (by simp) _
  clear hr0 hr1
  unfold encV
  unfold factQ
  cases hq : keyQ x.f0 y.f0 with
  | true =>
    have hq' : (x.f0.f0 == y.f0.f0 && (x.f0.f1 == y.f0.f1 && (x.f0.f2.toList == y.f0.f2.toList && (x.f0.f3 == y.f0.f3)))) = true := by rw [← HQ.out]; exact hq
    clear hq
    go_enter Try.func43, Try.ntmps43
    go_wp2_with fail
    refine (HE.out _ hb0).mono ?_
    rintro e w1 ⟨rfl, hb1⟩
    go_wp2
    go_ret
    exact ⟨by simp, hb0.trans (hb1.mono hb0.size)⟩
  | false =>
    have hq' : (x.f0.f0 == y.f0.f0 && (x.f0.f1 == y.f0.f1 && (x.f0.f2.toList == y.f0.f2.toList && (x.f0.f3 == y.f0.f3)))) = false := by rw [← HQ.out]; exact hq
    clear hq
    go_enter Try.func43, Try.ntmps43
    go_wp2
    go_ret
    exact ⟨rfl, hb0⟩
theorem factsQ_at {l m : List F} {i : Nat} (h0 : i < l.length) (h1 : i < m.length) : factsQ (l.drop i) (m.drop i) = (factQ l[i] m[i] && factsQ (l.drop (i + 1)) (m.drop (i + 1))) := by
  rw [List.drop_eq_getElem_cons h0, List.drop_eq_getElem_cons h1]; rfl
set_option maxRecDepth 100000 in
set_option maxHeartbeats 4000000 in
theorem equalFunc_any (A0 : Option Addr) (c0 : Nat) (l0 : List F) (A1 : Option Addr) (c1 : Nat) (l1 : List F) (w : World) (hr0 : Kd.C k47 w A0 l0.length l0) (hc0 : l0.length ≤ c0) (hr1 : Kd.C k47 w A1 l1.length l1) (hc1 : l1.length ≤ c1) :
    Calls Try.prog 42 #[.slice A0 l0.length c0, .slice A1 l1.length c1, .func (.func 43) #[] #[]] w fun e w' => e = .returned (.bool (factsQ l0 l1)) ∧ Below w.heap.size w w' := by
  have hm0 : l0.length ≤ 9223372036854775807 := hr0.2.1
  by_cases hl : l0.length = l1.length
  · have HR := Lib.hid (And.intro hr0 hr1)
    have HE := Lib.hid (fun (x y : F) A0 c0 A1 c1 W h1 h2 h3 h4 => same1_any x y A0 c0 A1 c1 W h1 h2 h3 h4)
    have hle : ((l0.length : Int) == (l1.length : Int)) = true := by rw [hl]; simp
    have hln : ((l0.length : Int) != (l1.length : Int)) = false := by rw [hl]; simp
    have HL := Lib.hid hl
    clear hr0 hr1 hl
    go_enter Try.func42, Try.ntmps42
    go_wp2
    go_loopw [17] (fun s wr => ∃ i : Nat, i ≤ l0.length ∧ s = .int .i64 i ∧ Hid (factsQ l0 l1 = factsQ (l0.drop i) (l1.drop i) ∧ Below w.heap.size w wr)) (fun s _ => l0.length - (intOf s).toNat)
    case atStart => exact ⟨0, Nat.zero_le _, rfl, Lib.hid ⟨rfl, Below.refl _ _⟩⟩
    case round =>
      obtain ⟨i, hi, rfl, HV⟩ := hrel
      by_cases hlt : i < l0.length
      · have hl' := HL.out
        obtain ⟨ad, Ax, cx, hA, h0, h1, h2, h3, h4, h5, h6⟩ := at_T47 (Kd.C_below HR.out.1 HV.out.2) (i : Nat) (by omega) (by omega)
        obtain ⟨ad', Ay, cy, hA', g0, g1, g2, g3, g4, g5, g6⟩ := at_T47 (Kd.C_below HR.out.2 HV.out.2) (i : Nat) (by omega) (by omega)
        subst hA hA'
        simp only [Int.toNat_natCast] at h0 h1 h2 h3 h4 g0 g1 g2 g3 g4
        have HF : Hid (factsQ (l0.drop i) (l1.drop i) = (factQ (rd_T47 l0 (i : Nat)) (rd_T47 l1 (i : Nat)) && factsQ (l0.drop (i + 1)) (l1.drop (i + 1)))) := by
          rw [rd_nat l0 i hlt, rd_nat l1 i (by omega)]; exact Lib.hid (factsQ_at hlt (by omega))
        generalize rd_T47 l0 (i : Nat) = x at *
        generalize rd_T47 l1 (i : Nat) = y at *
        have ci0 : (0 : Int) ≤ (i : Int) := by omega
        have ci1 : (i : Int) < (l0.length : Int) := by omega
        have ci2 : (i : Int) < (l1.length : Int) := by omega
        clear hl'
        have hbq : ∀ o, Below wr.heap.size wr (wr.alloc o) := fun o => (Below.refl _ _).alloc (Nat.le_refl _) o
        have q0 : ∀ o, (wr.alloc o).cell? _ = _ := fun o => cell_below (hbq o) g0
        have q1 : ∀ o, (wr.alloc o).cell? _ = _ := fun o => cell_below (hbq o) g1
        have q2 : ∀ o, (wr.alloc o).cell? _ = _ := fun o => cell_below (hbq o) g2
        have q3 : ∀ o, (wr.alloc o).cell? _ = _ := fun o => cell_below (hbq o) g3
        have q4 : ∀ o, (wr.alloc o).cell? _ = _ := fun o => cell_below (hbq o) g4
        clear hbq
        go_wp2_with fail
        have hb1 : Below wr.heap.size wr ((wr.alloc (.cells #[.int .i64 x.f0.f0, .int .u8 x.f0.f1, .string x.f0.f2, .int .i64 x.f0.f3, .slice Ax x.f1.length cx] 47)).alloc (.cells #[.int .i64 y.f0.f0, .int .u8 y.f0.f1, .string y.f0.f2, .int .i64 y.f0.f3, .slice Ay y.f1.length cy] 47)) := ((Below.refl _ _).alloc (Nat.le_refl _) _).alloc (by simp) _
        refine (HE.out x y Ax cx Ay cy _ (Kd.C_below h6 hb1) h5 (Kd.C_below g6 hb1) g5).mono ?_
        rintro e w1 ⟨rfl, hb2⟩
        have HB := Lib.hid (HV.out.2.trans ((hb1.trans (hb2.mono hb1.size)).mono HV.out.2.size))
        clear hb1 hb2 h0 h1 h2 h3 h4 h6 g0 g1 g2 g3 g4 g6 q0 q1 q2 q3 q4
        cases hq : factQ x y with
        | true =>
          rw [hq] at HF
          clear hq
          go_wp2
          go_roundw
          case rel => exact ⟨i + 1, hlt, by go_num, Lib.hid ⟨HV.out.1.trans (HF.out.trans (by simp)), HB.out⟩⟩
          case measure => simp [intOf]; omega
        | false =>
          rw [hq] at HF
          clear hq
          go_wp2
          go_ret
          exact ⟨by rw [HV.out.1, HF.out]; rfl, HB.out⟩
      · obtain rfl : i = l0.length := by omega
        have HT : Hid (factsQ l0 l1 = true) := Lib.hid (HV.out.1.trans (by rw [List.drop_length, HL.out, List.drop_length]; rfl))
        go_wp2
        go_ret
        exact ⟨by rw [HT.out]; rfl, HV.out.2⟩
  · have hle : ((l0.length : Int) == (l1.length : Int)) = false := by rw [beq_eq_false_iff_ne]; omega
    have hln : ((l0.length : Int) != (l1.length : Int)) = true := by rw [bne_iff_ne]; omega
    have hq := factsQ_len hl
    clear hr0 hr1
    go_enter Try.func42, Try.ntmps42
    go_wp2
    go_ret
    exact ⟨by rw [hq]; rfl, Below.refl _ _⟩
theorem factSame_any (A0 : Option Addr) (c0 : Nat) (l0 : List F) (A1 : Option Addr) (c1 : Nat) (l1 : List F) (w : World) (hr0 : Kd.C k47 w A0 l0.length l0) (hc0 : l0.length ≤ c0) (hr1 : Kd.C k47 w A1 l1.length l1) (hc1 : l1.length ≤ c1) :
    Calls Try.prog 24 #[.slice A0 l0.length c0, .slice A1 l1.length c1] w fun e w' => e = .returned (.bool (factsQ l0 l1)) ∧ Below w.heap.size w w' := by
  have HE := Lib.hid (equalFunc_any A0 c0 l0 A1 c1 l1 w hr0 hc0 hr1 hc1)
  clear hr0 hr1
  go_enter Try.func24, Try.ntmps24
  go_wp2_with fail
  refine HE.out.mono ?_
  rintro e w1 ⟨rfl, hb⟩
  go_wp2
  go_ret
  exact ⟨rfl, hb⟩
end Go.Proofs.Ytbhmncenbpdcjaa.P
end
section
/- carrackref06.one: a round of its loop. -/
namespace Go.Proofs.Ytbhmncenbpdcjaa.P
open Go Go.Shelf Go.RowKit Go.Proofs.YtbhmncenbpdcjaaW.PrintWords Go.Proofs.YtbhmncenbpdcjaaW.PrintLast Go.Proofs.YtbhmncenbpdcjaaW.PrintMore
set_option linter.unusedVariables false
set_option linter.unusedSimpArgs false
attribute [local go_sem] Oper.semAt_some
attribute [local go_sem high] eqA30
attribute [local go_sem ↓] Go.wp_at_zero Go.wp_at_succ
noncomputable def oneBody : Code := ((Try.f41.body.bind firstLoop).getD .skip)
/-- What the document's change makes of facts, place by place. -/
def oneL (c : Ch) : Bool → List F → List F
  | done, [] => if done then [] else [⟨c.f0, c.f1⟩]
  | done, x :: l => if keyQ x.f0 c.f0 then (if done then oneL c true l else ⟨c.f0, c.f1⟩ :: oneL c true l)
      else if !done && bef c.f0 x.f0 then ⟨c.f0, c.f1⟩ :: x :: oneL c true l else x :: oneL c done l
/-- Cells that read as a fact in every world that keeps what was there, and the change's own value. -/
def GK (w0 : World) (ov : Value) (c : Ch) (x : F) (cs : List Value) : Prop := ∀ W', Below w0.heap.size w0 W' → Kd.R (Kd.int .u8) 5 W' w0.heap.size (fun _ => True) ov c.f1 → k47.K W' x cs
def OneI (w0 : World) (bx : Nat) (c : Ch) (A4 : Option Addr) (c4 : Nat) (ov : Value) (W : World) : Prop :=
  W.heap[bx]? = some (.cells (cells6 c A4 c4).toArray 53 (0, 0)) ∧ Kd.R (Kd.int .u8) 5 W w0.heap.size (fun _ => True) ov c.f1 ∧ Below w0.heap.size w0 W
theorem OneI.step {w0 : World} {bx : Nat} {c : Ch} {A4 : Option Addr} {c4 : Nat} {ov : Value} {W W' : World} (h : OneI w0 bx c A4 c4 ov W) (hb : Below W.heap.size W W') : OneI w0 bx c A4 c4 ov W' :=
  ⟨(hb.block bx (Array.getElem?_eq_some_iff.1 h.1).1).trans h.1, Kd.R_below h.2.1 hb, h.2.2.trans (hb.mono h.2.2.size)⟩
theorem OneI.grow {w0 : World} {bx : Nat} {c : Ch} {A4 : Option Addr} {c4 : Nat} {ov : Value} {W W' : World} {R : F → List Value → Prop} {v : Value} {ps : List F} (h : OneI w0 bx c A4 c4 ov W) (ho : OwnRow R 47 5 W w0.heap.size v ps) (hg : W.grownBy W' v.ownBlock) (hb : Below w0.heap.size w0 W') : OneI w0 bx c A4 c4 ov W' := by
  obtain ⟨h1, h2, h3⟩ := h
  refine ⟨(hg.block bx (Array.getElem?_eq_some_iff.1 h1).1 (ho.ne_block h1 (by decide))).trans h1, ?_, hb⟩
  refine Kd.R_mono (Kd.R_grown (Kd.R_bound h2) hg fun k hk => ?_) fun _ _ => trivial
  obtain ⟨_, _, _, q, hq, cells, hc⟩ := hk
  have : q = 5 := by simpa [Kd.int, Kd.scalar] using hq
  subst this
  exact ho.ne_block hc (by decide)
theorem GK.own {w0 : World} {c : Ch} {A : Option Addr} {n : Nat} {cap : Nat} : GK w0 (.slice A n cap) c ⟨c.f0, c.f1⟩ [.int .i64 c.f0.f0, .int .u8 c.f0.f1, .string c.f0.f2, .int .i64 c.f0.f3, .slice A n cap] := fun W' _ hr => by
  obtain ⟨h1, h2, h3⟩ := Kd.R_reads' hr
  subst h1
  exact k47_mk W' ⟨c.f0, c.f1⟩ h2 h3
theorem GK.old {w0 : World} {ov : Value} {c : Ch} {x : F} {A : Option Addr} {cap : Nat} (h : x.f1.length ≤ cap) (hC : Kd.C (Kd.int .u8) w0 A x.f1.length x.f1) : GK w0 ov c x [.int .i64 x.f0.f0, .int .u8 x.f0.f1, .string x.f0.f2, .int .i64 x.f0.f3, .slice A x.f1.length cap] := fun W' hb _ =>
  k47_mk W' x h (Kd.C_below hC hb)
theorem refBef_any (a b : K) (ha : a.f2.size ≤ maxLen) (hb : b.f2.size ≤ maxLen) (w : World) : Calls Try.prog 58 #[.agg #[.int .i64 a.f0, .int .u8 a.f1, .string a.f2, .int .i64 a.f3], .agg #[.int .i64 b.f0, .int .u8 b.f1, .string b.f2, .int .i64 b.f3]] w fun e w' => e = .returned (.bool (bef a b)) ∧ Below w.heap.size w w' :=
  carrackref06_Before.calls a.f0 a.f1 a.f2 a.f3 b.f0 b.f1 b.f2 b.f3 _ w (by unfold carrackref06_Before.f; rw [if_pos ha, if_pos hb]; rfl)
set_option maxRecDepth 100000 in
set_option maxHeartbeats 8000000 in
theorem one_round (u1 u2 u4 u9 u10 u11 u12 u13 u14 u15 u16 u17 u18 u19 u20 u21 u22 u23 u24 u25 u26 u27 u28 u29 u30 u31 u32 u33 u34 u35 u36 u37 u38 u39 u40 u41 u42 u43 u44 u45 u46 u47 u48 u49 u50 u51 u52 u53 u54 u55 u56 u57 u58 u59 u60 u61 u62 u63 u64 u65 u66 u67 u68 u69 u70 u71 u72 u73 : Value) (bx i : Nat) (A : Option Addr) (cap : Nat) (l : List F) (w0 : World) (c : Ch) (A4 : Option Addr) (c4 : Nat) (Ao : Option Addr) (co : Nat) (vout : Value) (pre : List F) (done : Bool) (W : World) (Q : Exit → Act → World → Prop)
    (hi : i < l.length) (hn : ∀ x ∈ l, x.f0.f2.size ≤ maxLen) (hcn : c.f0.f2.size ≤ maxLen) (hr : Kd.C k47 w0 A l.length l) (hc : l.length ≤ cap) (hI : OneI w0 bx c A4 c4 (.slice Ao c.f1.length co) W) (hO : OwnRow (GK w0 (.slice Ao c.f1.length co) c) 47 5 W w0.heap.size vout pre) (hbig : (pre.length + 2) * 64 ≤ 140737488355328)
    (hQ : ∀ (v15 v16 v17 v18 v19 v20 v21 v22 v23 v24 v25 v26 v27 v28 v29 v30 v31 v32 v33 v34 v35 v36 v37 v38 v39 v40 v41 v42 v43 v44 v45 v46 v47 v48 v49 v50 v51 v52 v53 v54 v55 v56 v57 v58 v59 v60 v61 v62 v63 v64 v65 v66 v67 v68 v69 v70 v71 v72 v73 v' : Value) (pre' : List F) (done' : Bool) (W' : World), OneI w0 bx c A4 c4 (.slice Ao c.f1.length co) W' → OwnRow (GK w0 (.slice Ao c.f1.length co) c) 47 5 W' w0.heap.size v' pre' → pre ++ oneL c done (l.drop i) = pre' ++ oneL c done' (l.drop (i + 1)) → pre'.length ≤ pre.length + 2 →
      Q .normal { tmps := #[.slice A l.length cap, u1, u2, .pointer (some ⟨bx, 0, none⟩), u4, v', .bool done', .slice Ao c.f1.length co, .int .i64 ((i : Int) + 1), u9, u10, u11, u12, u13, u14, v15, v16, v17, v18, v19, v20, v21, v22, v23, v24, v25, v26, v27, v28, v29, v30, v31, v32, v33, v34, v35, v36, v37, v38, v39, v40, v41, v42, v43, v44, v45, v46, v47, v48, v49, v50, v51, v52, v53, v54, v55, v56, v57, v58, v59, v60, v61, v62, v63, v64, v65, v66, v67, v68, v69, v70, v71, v72, v73], defers := [] } W') :
    Code.wp Try.prog oneBody Q { tmps := #[.slice A l.length cap, u1, u2, .pointer (some ⟨bx, 0, none⟩), u4, vout, .bool done, .slice Ao c.f1.length co, .int .i64 i, u9, u10, u11, u12, u13, u14, u15, u16, u17, u18, u19, u20, u21, u22, u23, u24, u25, u26, u27, u28, u29, u30, u31, u32, u33, u34, u35, u36, u37, u38, u39, u40, u41, u42, u43, u44, u45, u46, u47, u48, u49, u50, u51, u52, u53, u54, u55, u56, u57, u58, u59, u60, u61, u62, u63, u64, u65, u66, u67, u68, u69, u70, u71, u72, u73], defers := [] } W := by
  conv => arg 2; whnf
  obtain ⟨ad, Ax, cx, hA, h0, h1, h2, h3, h4, h5, h6⟩ := at_T47 hr (i : Nat) (by omega) (by omega)
  subst hA
  simp only [Int.toNat_natCast] at h0 h1 h2 h3 h4
  have hlm : l.length ≤ 9223372036854775807 := hr.2.1
  have hone : oneL c done (l.drop i) = (if keyQ (rd_T47 l (i : Nat)).f0 c.f0 then (if done then oneL c true (l.drop (i + 1)) else ⟨c.f0, c.f1⟩ :: oneL c true (l.drop (i + 1)))
      else if !done && bef c.f0 (rd_T47 l (i : Nat)).f0 then ⟨c.f0, c.f1⟩ :: rd_T47 l (i : Nat) :: oneL c true (l.drop (i + 1)) else rd_T47 l (i : Nat) :: oneL c done (l.drop (i + 1))) := by
    rw [rd_nat l i hi, List.drop_eq_getElem_cons hi]; rfl
  have hxn : (rd_T47 l (i : Nat)).f0.f2.size ≤ maxLen := by rw [rd_nat l i hi]; exact hn _ (List.getElem_mem hi)
  generalize rd_T47 l (i : Nat) = x at *
  have hgx : GK w0 (.slice Ao c.f1.length co) c x _ := GK.old h5 h6
  have hbW := hI.2.2
  have HX0 := Lib.hid (fun W' (hb : Below w0.heap.size w0 W') => And.intro (cell_below hb h0) (And.intro (cell_below hb h1) (And.intro (cell_below hb h2) (And.intro (cell_below hb h3) (cell_below hb h4)))))
  have h0 := cell_below hbW h0
  have h1 := cell_below hbW h1
  have h2 := cell_below hbW h2
  have h3 := cell_below hbW h3
  have h4 := cell_below hbW h4
  have hx := hI.1
  have k0 : W.cell? ⟨bx, 0, none⟩ = some (.int .i64 c.f0.f0) := by simp [World.cell?, hx, cells6]
  have k1 : W.cell? ⟨bx, 1, none⟩ = some (.int .u8 c.f0.f1) := by simp [World.cell?, hx, cells6]
  have k2 : W.cell? ⟨bx, 2, none⟩ = some (.string c.f0.f2) := by simp [World.cell?, hx, cells6]
  have k3 : W.cell? ⟨bx, 3, none⟩ = some (.int .i64 c.f0.f3) := by simp [World.cell?, hx, cells6]
  have ci0 : (0 : Int) ≤ (i : Int) := by omega
  have ci1 : (i : Int) < (l.length : Int) := by omega
  have hqq : keyQ x.f0 c.f0 = (x.f0.f0 == c.f0.f0 && (x.f0.f1 == c.f0.f1 && (x.f0.f2.toList == c.f0.f2.toList && (x.f0.f3 == c.f0.f3)))) := rfl
  have HQ := Lib.hid hQ
  have HI := Lib.hid (And.intro hI (And.intro hO (And.intro hgx hbig)))
  have HB := Lib.hid (fun W => refBef_any c.f0 x.f0 hcn hxn W)
  clear hQ hI hO hgx hbig hx hbW h6 hr hn hcn hxn
  cases hk : keyQ x.f0 c.f0 with
  | true =>
    rw [hk] at hone hqq
    have HN := Lib.hid hone
    replace hqq := hqq.symm
    clear hone hk
    cases done with
    | true =>
      go_wp2_with fail
      go_quiet (fail)
      have hd : Below W.heap.size W (W.drewN nq) := pw_below_drewN (Below.refl _ _) nq
      have HI1 := Lib.hid (OneI.step HI.out.1 hd)
      have HO1 := Lib.hid (HI.out.2.1.below hd)
      have hbig := HI.out.2.2.2
      clear hd h0 h1 h2 h3 h4 k0 k1 k2 k3
      generalize W.drewN nq = W1 at *
      obtain ⟨h0, h1, h2, h3, h4⟩ := HX0.out W1 HI1.out.2.2
      have k0 : W1.cell? ⟨bx, 0, none⟩ = some (.int .i64 c.f0.f0) := by have hx := HI1.out.1; simp [World.cell?, hx, cells6]
      have k1 : W1.cell? ⟨bx, 1, none⟩ = some (.int .u8 c.f0.f1) := by have hx := HI1.out.1; simp [World.cell?, hx, cells6]
      have k2 : W1.cell? ⟨bx, 2, none⟩ = some (.string c.f0.f2) := by have hx := HI1.out.1; simp [World.cell?, hx, cells6]
      have k3 : W1.cell? ⟨bx, 3, none⟩ = some (.int .i64 c.f0.f3) := by have hx := HI1.out.1; simp [World.cell?, hx, cells6]
      go_wp2
      refine HQ.out _ _ _ _ _ _ _ _ _ _ _ _ _ _ _ _ _ _ _ _ _ _ _ _ _ _ _ _ _ _ _ _ _ _ _ _ _ _ _ _ _ _ _ _ _ _ _ _ _ _ _ _ _ _ _ _ _ _ _ vout pre true W1 HI1.out HO1.out ?_ (by omega)
      rw [HN.out]; rfl
    | false =>
      go_wp2_with fail
      go_quiet (fail)
      have hd : Below W.heap.size W (W.drewN nq) := pw_below_drewN (Below.refl _ _) nq
      have HI1 := Lib.hid (OneI.step HI.out.1 hd)
      have HO1 := Lib.hid (HI.out.2.1.below hd)
      have hbig := HI.out.2.2.2
      clear hd h0 h1 h2 h3 h4 k0 k1 k2 k3
      generalize W.drewN nq = W1 at *
      obtain ⟨h0, h1, h2, h3, h4⟩ := HX0.out W1 HI1.out.2.2
      have k0 : W1.cell? ⟨bx, 0, none⟩ = some (.int .i64 c.f0.f0) := by have hx := HI1.out.1; simp [World.cell?, hx, cells6]
      have k1 : W1.cell? ⟨bx, 1, none⟩ = some (.int .u8 c.f0.f1) := by have hx := HI1.out.1; simp [World.cell?, hx, cells6]
      have k2 : W1.cell? ⟨bx, 2, none⟩ = some (.string c.f0.f2) := by have hx := HI1.out.1; simp [World.cell?, hx, cells6]
      have k3 : W1.cell? ⟨bx, 3, none⟩ = some (.int .i64 c.f0.f3) := by have hx := HI1.out.1; simp [World.cell?, hx, cells6]
      go_wp2_with ((at_builtin; refine OwnRow.append (w0 := w0) (R := GK w0 (.slice Ao c.f1.length co) c) w0.heap.size rfl (.tmp 31) (.tmp 36) 38 47 (.agg #[.int .i64 0, .int .u8 0, .string ⟨#[]⟩, .int .i64 0, .slice none 0 0]) 5 64 rfl Try.underlying38 info47 rfl (by decide) (by decide) vout pre ⟨c.f0, c.f1⟩ [.int .i64 c.f0.f0, .int .u8 c.f0.f1, .string c.f0.f2, .int .i64 c.f0.f3, .slice Ao c.f1.length co] rfl rfl GK.own rfl (by simp [Value.oneCell']) HO1.out HI1.out.2.2 HI1.out.2.2.size (by omega) ?_; intro v2 w2 ho2 hb2 hg2 hat2; obtain ⟨A2, c2, hv2, _⟩ := ho2.slice_; subst hv2; have HI2 := Lib.hid (OneI.grow HI1.out HO1.out hg2 hb2); simp only [List.length_append, List.length_singleton] at ho2; have HO2 := Lib.hid ho2; clear ho2 hb2 hg2 hat2))
      refine HQ.out _ _ _ _ _ _ _ _ _ _ _ _ _ _ _ _ _ _ _ _ _ _ _ _ _ _ _ _ _ _ _ _ _ _ _ _ _ _ _ _ _ _ _ _ _ _ _ _ _ _ _ _ _ _ _ _ _ _ _ _ _ true w2 HI2.out HO2.out ?_ ?_
      · rw [HN.out]; simp
      · simp
  | false =>
    rw [hk] at hone hqq
    replace hqq := hqq.symm
    clear hk
    cases done with
    | true =>
      have HN := Lib.hid hone
      clear hone
      go_wp2_with fail
      go_quiet (fail)
      have hd : Below W.heap.size W (W.drewN nq) := pw_below_drewN (Below.refl _ _) nq
      have HI1 := Lib.hid (OneI.step HI.out.1 hd)
      have HO1 := Lib.hid (HI.out.2.1.below hd)
      have hbig := HI.out.2.2.2
      clear hd h0 h1 h2 h3 h4 k0 k1 k2 k3
      generalize W.drewN nq = W1 at *
      obtain ⟨h0, h1, h2, h3, h4⟩ := HX0.out W1 HI1.out.2.2
      have k0 : W1.cell? ⟨bx, 0, none⟩ = some (.int .i64 c.f0.f0) := by have hx := HI1.out.1; simp [World.cell?, hx, cells6]
      have k1 : W1.cell? ⟨bx, 1, none⟩ = some (.int .u8 c.f0.f1) := by have hx := HI1.out.1; simp [World.cell?, hx, cells6]
      have k2 : W1.cell? ⟨bx, 2, none⟩ = some (.string c.f0.f2) := by have hx := HI1.out.1; simp [World.cell?, hx, cells6]
      have k3 : W1.cell? ⟨bx, 3, none⟩ = some (.int .i64 c.f0.f3) := by have hx := HI1.out.1; simp [World.cell?, hx, cells6]
      go_wp2_with fail
      go_quiet (fail)
      have hd : Below W1.heap.size W1 (W1.drewN nq) := pw_below_drewN (Below.refl _ _) nq
      have HI3 := Lib.hid (OneI.step HI1.out hd)
      have HO3 := Lib.hid (HO1.out.below hd)
      clear hd h0 h1 h2 h3 h4 k0 k1 k2 k3
      generalize W1.drewN nq = W3 at *
      obtain ⟨h0, h1, h2, h3, h4⟩ := HX0.out W3 HI3.out.2.2
      have hgx := HI.out.2.2.1
      go_wp2_with ((at_builtin; refine OwnRow.append (w0 := w0) (R := GK w0 (.slice Ao c.f1.length co) c) w0.heap.size rfl (.tmp 57) (.tmp 62) 38 47 (.agg #[.int .i64 0, .int .u8 0, .string ⟨#[]⟩, .int .i64 0, .slice none 0 0]) 5 64 rfl Try.underlying38 info47 rfl (by decide) (by decide) vout pre x [.int .i64 x.f0.f0, .int .u8 x.f0.f1, .string x.f0.f2, .int .i64 x.f0.f3, .slice Ax x.f1.length cx] rfl rfl hgx rfl (by simp [Value.oneCell']) HO3.out HI3.out.2.2 HI3.out.2.2.size (by omega) ?_; intro v4 w4 ho4 hb4 hg4 hat4; obtain ⟨A4, c4, hv4, _⟩ := ho4.slice_; subst hv4; have HI4 := Lib.hid (OneI.grow HI3.out HO3.out hg4 hb4); simp only [List.length_append, List.length_singleton] at ho4; have HO4 := Lib.hid ho4; clear ho4 hb4 hg4 hat4))
      refine HQ.out _ _ _ _ _ _ _ _ _ _ _ _ _ _ _ _ _ _ _ _ _ _ _ _ _ _ _ _ _ _ _ _ _ _ _ _ _ _ _ _ _ _ _ _ _ _ _ _ _ _ _ _ _ _ _ _ _ _ _ _ _ true w4 HI4.out HO4.out ?_ ?_
      · rw [HN.out]; simp
      · simp
    | false =>
      have HN := Lib.hid hone
      clear hone
      go_wp2_with fail
      go_quiet (fail)
      have hd : Below W.heap.size W (W.drewN nq) := pw_below_drewN (Below.refl _ _) nq
      have HI1 := Lib.hid (OneI.step HI.out.1 hd)
      have HO1 := Lib.hid (HI.out.2.1.below hd)
      have hbig := HI.out.2.2.2
      clear hd h0 h1 h2 h3 h4 k0 k1 k2 k3
      generalize W.drewN nq = W1 at *
      obtain ⟨h0, h1, h2, h3, h4⟩ := HX0.out W1 HI1.out.2.2
      have k0 : W1.cell? ⟨bx, 0, none⟩ = some (.int .i64 c.f0.f0) := by have hx := HI1.out.1; simp [World.cell?, hx, cells6]
      have k1 : W1.cell? ⟨bx, 1, none⟩ = some (.int .u8 c.f0.f1) := by have hx := HI1.out.1; simp [World.cell?, hx, cells6]
      have k2 : W1.cell? ⟨bx, 2, none⟩ = some (.string c.f0.f2) := by have hx := HI1.out.1; simp [World.cell?, hx, cells6]
      have k3 : W1.cell? ⟨bx, 3, none⟩ = some (.int .i64 c.f0.f3) := by have hx := HI1.out.1; simp [World.cell?, hx, cells6]
      go_wp2_with fail
      go_region_held3 (fun w' => w'.cell? ⟨bx, 0, none⟩ = some (.int .i64 c.f0.f0) ∧ w'.cell? ⟨bx, 1, none⟩ = some (.int .u8 c.f0.f1) ∧ w'.cell? ⟨bx, 2, none⟩ = some (.string c.f0.f2) ∧ w'.cell? ⟨bx, 3, none⟩ = some (.int .i64 c.f0.f3) ∧ w'.cell? (ad.add (i * 5)) = some (.int .i64 x.f0.f0) ∧ w'.cell? ⟨(ad.add (i * 5)).block, (ad.add (i * 5)).off + 1, none⟩ = some (.int .u8 x.f0.f1) ∧ w'.cell? ⟨(ad.add (i * 5)).block, (ad.add (i * 5)).off + 2, none⟩ = some (.string x.f0.f2) ∧ w'.cell? ⟨(ad.add (i * 5)).block, (ad.add (i * 5)).off + 3, none⟩ = some (.int .i64 x.f0.f3))
        (first | go_keep | (go_split_ands; exact ⟨cell_below hb7 k0, cell_below hb7 k1, cell_below hb7 k2, cell_below hb7 k3, cell_below hb7 h0, cell_below hb7 h1, cell_below hb7 h2, cell_below hb7 h3⟩))
        (first | (go_at_call 58; (with_reducible refine (HB.out _).mono ?_); rintro e w7 ⟨rfl, hb7⟩))
      have hd : Below W1.heap.size W1 w7 := (Below.refl _ _).drew.trans (hb7.mono (Nat.le_refl _))
      have HI7 := Lib.hid (OneI.step HI1.out hd)
      have HO7 := Lib.hid (HO1.out.below hd)
      clear hd hb7 h0 h1 h2 h3 h4 k0 k1 k2 k3
      obtain ⟨h0, h1, h2, h3, h4⟩ := HX0.out w7 HI7.out.2.2
      have k0 : w7.cell? ⟨bx, 0, none⟩ = some (.int .i64 c.f0.f0) := by have hx := HI7.out.1; simp [World.cell?, hx, cells6]
      have k1 : w7.cell? ⟨bx, 1, none⟩ = some (.int .u8 c.f0.f1) := by have hx := HI7.out.1; simp [World.cell?, hx, cells6]
      have k2 : w7.cell? ⟨bx, 2, none⟩ = some (.string c.f0.f2) := by have hx := HI7.out.1; simp [World.cell?, hx, cells6]
      have k3 : w7.cell? ⟨bx, 3, none⟩ = some (.int .i64 c.f0.f3) := by have hx := HI7.out.1; simp [World.cell?, hx, cells6]
      have hgx := HI.out.2.2.1
      cases hbf : bef c.f0 x.f0 with
      | true =>
        rw [hbf] at HN
        clear hbf
        go_wp2_with (first | (at_builtin; refine OwnRow.append (w0 := w0) (R := GK w0 (.slice Ao c.f1.length co) c) w0.heap.size rfl (.tmp 50) (.tmp 55) 38 47 (.agg #[.int .i64 0, .int .u8 0, .string ⟨#[]⟩, .int .i64 0, .slice none 0 0]) 5 64 rfl Try.underlying38 info47 rfl (by decide) (by decide) vout pre ⟨c.f0, c.f1⟩ [.int .i64 c.f0.f0, .int .u8 c.f0.f1, .string c.f0.f2, .int .i64 c.f0.f3, .slice Ao c.f1.length co] rfl rfl GK.own rfl (by simp [Value.oneCell']) HO7.out HI7.out.2.2 HI7.out.2.2.size (by omega) ?_; intro v8 w8 ho8 hb8 hg8 hat8; obtain ⟨A8, c8, hv8, _⟩ := ho8.slice_; subst hv8; have HI8 := Lib.hid (OneI.grow HI7.out HO7.out hg8 hb8); simp only [List.length_append, List.length_singleton] at ho8; have HO8 := Lib.hid ho8; obtain ⟨h0, h1, h2, h3, h4⟩ := HX0.out w8 HI8.out.2.2; clear ho8 hb8 hg8 hat8) | (at_builtin; refine OwnRow.append (w0 := w0) (R := GK w0 (.slice Ao c.f1.length co) c) w0.heap.size rfl (.tmp 57) (.tmp 62) 38 47 (.agg #[.int .i64 0, .int .u8 0, .string ⟨#[]⟩, .int .i64 0, .slice none 0 0]) 5 64 rfl Try.underlying38 info47 rfl (by decide) (by decide) (.slice A8 (pre.length + 1) c8) (pre ++ [⟨c.f0, c.f1⟩]) x [.int .i64 x.f0.f0, .int .u8 x.f0.f1, .string x.f0.f2, .int .i64 x.f0.f3, .slice Ax x.f1.length cx] rfl rfl hgx rfl (by simp [Value.oneCell']) HO8.out HI8.out.2.2 HI8.out.2.2.size (by simp; omega) ?_; intro v9 w9 ho9 hb9 hg9 hat9; obtain ⟨A9, c9, hv9, _⟩ := ho9.slice_; subst hv9; have HI9 := Lib.hid (OneI.grow HI8.out HO8.out hg9 hb9); simp only [List.length_append, List.length_singleton] at ho9; have HO9 := Lib.hid ho9; clear ho9 hb9 hg9 hat9))
        refine HQ.out _ _ _ _ _ _ _ _ _ _ _ _ _ _ _ _ _ _ _ _ _ _ _ _ _ _ _ _ _ _ _ _ _ _ _ _ _ _ _ _ _ _ _ _ _ _ _ _ _ _ _ _ _ _ _ _ _ _ _ _ _ true w9 HI9.out HO9.out ?_ ?_
        · rw [HN.out]; simp
        · simp
      | false =>
        rw [hbf] at HN
        clear hbf
        go_wp2_with ((at_builtin; refine OwnRow.append (w0 := w0) (R := GK w0 (.slice Ao c.f1.length co) c) w0.heap.size rfl (.tmp 57) (.tmp 62) 38 47 (.agg #[.int .i64 0, .int .u8 0, .string ⟨#[]⟩, .int .i64 0, .slice none 0 0]) 5 64 rfl Try.underlying38 info47 rfl (by decide) (by decide) vout pre x [.int .i64 x.f0.f0, .int .u8 x.f0.f1, .string x.f0.f2, .int .i64 x.f0.f3, .slice Ax x.f1.length cx] rfl rfl hgx rfl (by simp [Value.oneCell']) HO7.out HI7.out.2.2 HI7.out.2.2.size (by omega) ?_; intro v10 w10 ho10 hb10 hg10 hat10; obtain ⟨A10, c10, hv10, _⟩ := ho10.slice_; subst hv10; have HI10 := Lib.hid (OneI.grow HI7.out HO7.out hg10 hb10); simp only [List.length_append, List.length_singleton] at ho10; have HO10 := Lib.hid ho10; clear ho10 hb10 hg10 hat10))
        refine HQ.out _ _ _ _ _ _ _ _ _ _ _ _ _ _ _ _ _ _ _ _ _ _ _ _ _ _ _ _ _ _ _ _ _ _ _ _ _ _ _ _ _ _ _ _ _ _ _ _ _ _ _ _ _ _ _ _ _ _ _ _ _ false w10 HI10.out HO10.out ?_ ?_
        · rw [HN.out]; simp
        · simp
end Go.Proofs.Ytbhmncenbpdcjaa.P
end
