/- Texts of this claim, laid one behind the other: Px6, Px8, Px12, FPure2, FSame, FRefOne, FRefOne2, FRefApply, FEq, Own, Put, Works06, FLaw1. -/
import Derived.Maps.AppendAt
import Derived.Laws.OwnMore
import Derived.Laws.MakeOwn
import Derived.Deep.AppendLies
import Derived.Lib.ConvBytes
import Derived.Test.YtbhmncenbpdcjaaZ1
import Derived.Test.YtbhmncenbpdcjaaZ2
section
/- Printed by a program of this workplace (wip/print/gprint.py, over the kit's print.py): functions of the program as Lean functions, and that the Go text comes to their answers. -/
namespace Go.Proofs.Ytbhmncenbpdcjaa.P
open Go.RowKit Go.Proofs.YtbhmncenbpdcjaaW.PrintWords Go.Proofs.YtbhmncenbpdcjaaW.PrintLast Go.Proofs.YtbhmncenbpdcjaaW.PrintMore
attribute [local go_sem] max2_int min2_int max_two min_two max_three min_three max_four min_four   -- for this text's walks alone
set_option linter.unusedVariables false
set_option linter.unusedSimpArgs false

attribute [local go_sem high] eqA30
/-! ### carrackref00_Facts: function 19 -/
def carrackref00_Facts.l0 : Nat → List (S47) → List (S47) → Int → Option (Bool)
  | 0, _, _, _ => none
  | k + 1, x0, x1, x5 => if x5 < (x0.length : Int) then (if 0 ≤ x5 then (if x5 < (x1.length : Int) then (if (!(((rd_T47 x0 x5).f0.f0) == ((rd_T47 x1 x5).f0.f0)) || (!(((rd_T47 x0 x5).f0.f1) == ((rd_T47 x1 x5).f0.f1)) || (!((((rd_T47 x0 x5).f0.f2).toList) == (((rd_T47 x1 x5).f0.f2).toList)) || (!(((rd_T47 x0 x5).f0.f3) == ((rd_T47 x1 x5).f0.f3)))))) = true then (some false) else ((carrackref00_Same.f k ((rd_T47 x0 x5).f1) ((rd_T47 x1 x5).f1)).bind fun t148 => (if t148 = true then (carrackref00_Facts.l0 k x0 x1 (wrap64 (x5 + 1))) else (some false)))) else (none)) else (none)) else (some true)
def carrackref00_Facts.f (k : Nat) (l0 : List (S47)) (l1 : List (S47)) : Option (Bool) := if (l0.length : Int) = (l1.length : Int) then (carrackref00_Facts.l0 k l0 l1 0) else (some false)
theorem carrackref00_Facts.mono_l : ∀ k, (∀ y0 y1 y2, LeO (carrackref00_Facts.l0 k y0 y1 y2) (carrackref00_Facts.l0 (k + 1) y0 y1 y2))
  | 0 => fun _ _ _ r h => by simp [carrackref00_Facts.l0] at h
  | k + 1 => by
    have ih0 := carrackref00_Facts.mono_l k
    · intro y0 y1 y2
      unfold carrackref00_Facts.l0
      repeat' first
      | (with_reducible exact ih0 _ _ _)
      | (with_reducible exact carrackref00_Same.mono _ _ _)
      | (with_reducible exact LeO.refl _)
      | (with_reducible exact LeO.none _)
      | (with_reducible refine LeO.ite ?_ ?_)
      | (with_reducible refine LeO.bind ?_ (fun _ => ?_))
      | exact ih0 _ _ _
      | exact carrackref00_Same.mono _ _ _
      | exact LeO.none _
      | refine LeO.ite ?_ ?_
      | refine LeO.bind ?_ (fun _ => ?_)
theorem carrackref00_Facts.mono : ∀ a0 a1 k, LeO (carrackref00_Facts.f k a0 a1) (carrackref00_Facts.f (k + 1) a0 a1) := by
  intro a0 a1 k
  have ih0 := carrackref00_Facts.mono_l k
  unfold carrackref00_Facts.f
  repeat' first
      | (with_reducible exact ih0 _ _ _)
      | (with_reducible exact carrackref00_Same.mono _ _ _)
      | (with_reducible exact LeO.refl _)
      | (with_reducible exact LeO.none _)
      | (with_reducible refine LeO.ite ?_ ?_)
      | (with_reducible refine LeO.bind ?_ (fun _ => ?_))
      | exact ih0 _ _ _
      | exact carrackref00_Same.mono _ _ _
      | exact LeO.none _
      | refine LeO.ite ?_ ?_
      | refine LeO.bind ?_ (fun _ => ?_)
set_option maxHeartbeats 8000000 in
set_option maxRecDepth 100000 in
theorem carrackref00_Facts.calls (k : Nat) (A0 : Option Addr) (c0 : Nat) (l0 : List (S47)) (A1 : Option Addr) (c1 : Nat) (l1 : List (S47)) (r : Bool) (w : World) (hr0 : Kd.C k47 w A0 l0.length l0) (hc0 : l0.length ≤ c0) (hr1 : Kd.C k47 w A1 l1.length l1) (hc1 : l1.length ≤ c1) (h : carrackref00_Facts.f k l0 l1 = some r) :
    Calls Try.prog 19 #[.slice A0 l0.length c0, .slice A1 l1.length c1] w fun e w' => e = .returned (.bool r) ∧ Drawn0 w w' := by
  have hu30 := Try.underlying30
  have HR0 := Aside0.mk hr0
  have HC0 := Aside0.mk hc0
  clear hr0 hc0
  have HR1 := Aside0.mk hr1
  have HC1 := Aside0.mk hc1
  clear hr1 hc1
  have H : (if (l0.length : Int) = (l1.length : Int) then (carrackref00_Facts.l0 k l0 l1 0) else (some false)) = some r := h
  clear h
  by_cases c3 : (l0.length : Int) = (l1.length : Int)
  · rw [if_pos c3] at H
    have c3b0 : ((l0.length : Int) == (l1.length : Int)) = true := beq_iff_eq.mpr c3
    have c3b1 : ((l0.length : Int) != (l1.length : Int)) = false := bne_eq_false_iff_eq.mpr c3
    have c3b2 : (l0.length == l1.length) = true := by first | simpa using c3 | (simp at c3 ⊢; omega)
    clear c3
    have H' := Aside0.mk H
    clear H
    go_enter Try.func19, Try.ntmps19
    go_wp2
    repeat (go_quiet (fail); try go_wp2)
    go_loopg [5] k (fun kq v5 w' => ∃ (x5_1 : Int), v5 = .int .i64 x5_1 ∧ Aside0 (carrackref00_Facts.l0 kq l0 l1 x5_1 = some r) ∧ Aside0 (kq ≤ k) ∧ Drawn0 w w')
    case atStart => exact ⟨(0), (by first | rfl | (simp; done) | (simp [*]; done)), H', ⟨Nat.le_refl _⟩, by repeat (first | exact Drawn0.refl _ | apply Drawn0.step)⟩
    case round =>
      clear H'
      try clear c1
      try clear p2
      try clear c3
      try clear c3b0
      try clear c3b1
      try clear c3b2
      obtain ⟨x5_1, rfl, HA, HK1, ⟨m1, rfl⟩⟩ := hrel
      cases gk with
      | zero => exact absurd HA.out (by simp [carrackref00_Facts.l0])
      | succ k1 =>
        have H := HA.out
        clear HA
        simp only [carrackref00_Facts.l0] at H
        by_cases c4 : x5_1 < (l0.length : Int)
        · rw [if_pos c4] at H
          have c4b0 : decide (x5_1 < (l0.length : Int)) = true := decide_eq_true c4
          clear c4
          by_cases c5 : 0 ≤ x5_1
          · rw [if_pos c5] at H
            have c5b0 : decide (0 ≤ x5_1) = true := decide_eq_true c5
            clear c5
            by_cases c6 : x5_1 < (l1.length : Int)
            · rw [if_pos c6] at H
              have c6b0 : decide (x5_1 < (l1.length : Int)) = true := decide_eq_true c6
              clear c6
              by_cases c7 : (!(((rd_T47 l0 x5_1).f0.f0) == ((rd_T47 l1 x5_1).f0.f0)) || (!(((rd_T47 l0 x5_1).f0.f1) == ((rd_T47 l1 x5_1).f0.f1)) || (!((((rd_T47 l0 x5_1).f0.f2).toList) == (((rd_T47 l1 x5_1).f0.f2).toList)) || (!(((rd_T47 l0 x5_1).f0.f3) == ((rd_T47 l1 x5_1).f0.f3)))))) = true
              · rw [if_pos c7] at H
                have c7b0 : (!(((rd_T47 l0 x5_1).f0.f0) == ((rd_T47 l1 x5_1).f0.f0)) || (!(((rd_T47 l0 x5_1).f0.f1) == ((rd_T47 l1 x5_1).f0.f1)) || (!((((rd_T47 l0 x5_1).f0.f2).toList) == (((rd_T47 l1 x5_1).f0.f2).toList)) || (!(((rd_T47 l0 x5_1).f0.f3) == ((rd_T47 l1 x5_1).f0.f3)))))) = true := c7
                clear c7
                obtain rfl := Option.some.inj H
                have p144 : 0 ≤ (x5_1 : Int) := of_decide_eq_true (by first | (with_reducible assumption) | assumption)
                have q144 : x5_1 < (l0.length : Int) := of_decide_eq_true (by first | (with_reducible assumption) | assumption)
                obtain ⟨ad144, A144_4, c144_4, e144, hx144_0, hx144_1, hx144_2, hx144_3, hx144_4, hl144_4, hi144_4⟩ := at_T47 HR0.out x5_1 p144 q144
                cases e144
                have HR144_4 := Aside0.mk hi144_4
                have HC144_4 := Aside0.mk hl144_4
                clear hi144_4 hl144_4
                replace p144 := eq_true p144
                replace q144 := eq_true q144
                have p145 : 0 ≤ (x5_1 : Int) := of_decide_eq_true (by first | (with_reducible assumption) | assumption)
                have q145 : x5_1 < (l1.length : Int) := of_decide_eq_true (by first | (with_reducible assumption) | assumption)
                obtain ⟨ad145, A145_4, c145_4, e145, hx145_0, hx145_1, hx145_2, hx145_3, hx145_4, hl145_4, hi145_4⟩ := at_T47 HR1.out x5_1 p145 q145
                cases e145
                have HR145_4 := Aside0.mk hi145_4
                have HC145_4 := Aside0.mk hl145_4
                clear hi145_4 hl145_4
                replace p145 := eq_true p145
                replace q145 := eq_true q145
                go_wp2
                repeat (go_quiet (fail); try go_wp2)
                go_ret
                exact ⟨by first | rfl | (simp; done) | (simp [*]; done), by repeat (first | exact Drawn0.refl _ | apply Drawn0.step)⟩
              · rw [if_neg c7] at H
                have c7b0 : (!(((rd_T47 l0 x5_1).f0.f0) == ((rd_T47 l1 x5_1).f0.f0)) || (!(((rd_T47 l0 x5_1).f0.f1) == ((rd_T47 l1 x5_1).f0.f1)) || (!((((rd_T47 l0 x5_1).f0.f2).toList) == (((rd_T47 l1 x5_1).f0.f2).toList)) || (!(((rd_T47 l0 x5_1).f0.f3) == ((rd_T47 l1 x5_1).f0.f3)))))) = false := by simpa using c7
                clear c7
                replace H := Option.bind_eq_some_iff.mp H
                obtain ⟨t148, A80, H⟩ := H
                replace H : (if t148 = true then (carrackref00_Facts.l0 k1 l0 l1 (wrap64 (x5_1 + 1))) else (some false)) = some r := H
                have A8 := Aside0.mk A80
                clear A80
                by_cases c9 : t148 = true
                · subst c9
                  have H1 : (carrackref00_Facts.l0 k1 l0 l1 (wrap64 (x5_1 + 1))) = some r := by rw [if_pos rfl] at H; exact H
                  clear H
                  have H := H1
                  clear H1
                  have H' := Aside0.mk H
                  clear H
                  have p144 : 0 ≤ (x5_1 : Int) := of_decide_eq_true (by first | (with_reducible assumption) | assumption)
                  have q144 : x5_1 < (l0.length : Int) := of_decide_eq_true (by first | (with_reducible assumption) | assumption)
                  obtain ⟨ad144, A144_4, c144_4, e144, hx144_0, hx144_1, hx144_2, hx144_3, hx144_4, hl144_4, hi144_4⟩ := at_T47 HR0.out x5_1 p144 q144
                  cases e144
                  have HR144_4 := Aside0.mk hi144_4
                  have HC144_4 := Aside0.mk hl144_4
                  clear hi144_4 hl144_4
                  replace p144 := eq_true p144
                  replace q144 := eq_true q144
                  have p145 : 0 ≤ (x5_1 : Int) := of_decide_eq_true (by first | (with_reducible assumption) | assumption)
                  have q145 : x5_1 < (l1.length : Int) := of_decide_eq_true (by first | (with_reducible assumption) | assumption)
                  obtain ⟨ad145, A145_4, c145_4, e145, hx145_0, hx145_1, hx145_2, hx145_3, hx145_4, hl145_4, hi145_4⟩ := at_T47 HR1.out x5_1 p145 q145
                  cases e145
                  have HR145_4 := Aside0.mk hi145_4
                  have HC145_4 := Aside0.mk hl145_4
                  clear hi145_4 hl145_4
                  replace p145 := eq_true p145
                  replace q145 := eq_true q145
                  have p146 : 0 ≤ (x5_1 : Int) := of_decide_eq_true (by first | (with_reducible assumption) | assumption)
                  have q146 : x5_1 < (l0.length : Int) := of_decide_eq_true (by first | (with_reducible assumption) | assumption)
                  obtain ⟨ad146, A146_4, c146_4, e146, hx146_0, hx146_1, hx146_2, hx146_3, hx146_4, hl146_4, hi146_4⟩ := at_T47 HR0.out x5_1 p146 q146
                  obtain rfl : ad144 = ad146 := (by injection e146)
                  have HR146_4 := Aside0.mk hi146_4
                  have HC146_4 := Aside0.mk hl146_4
                  clear hi146_4 hl146_4
                  replace p146 := eq_true p146
                  replace q146 := eq_true q146
                  have ea_ := Option.some.inj (hx144_4.symm.trans hx146_4)
                  injection ea_ with ea_ en_ ec_
                  subst ea_
                  subst ec_
                  clear en_
                  have p147 : 0 ≤ (x5_1 : Int) := of_decide_eq_true (by first | (with_reducible assumption) | assumption)
                  have q147 : x5_1 < (l1.length : Int) := of_decide_eq_true (by first | (with_reducible assumption) | assumption)
                  obtain ⟨ad147, A147_4, c147_4, e147, hx147_0, hx147_1, hx147_2, hx147_3, hx147_4, hl147_4, hi147_4⟩ := at_T47 HR1.out x5_1 p147 q147
                  obtain rfl : ad145 = ad147 := (by injection e147)
                  have HR147_4 := Aside0.mk hi147_4
                  have HC147_4 := Aside0.mk hl147_4
                  clear hi147_4 hl147_4
                  replace p147 := eq_true p147
                  replace q147 := eq_true q147
                  have ea_ := Option.some.inj (hx145_4.symm.trans hx147_4)
                  injection ea_ with ea_ en_ ec_
                  subst ea_
                  subst ec_
                  clear en_
                  go_wp2_with (first | (go_at_call 23; (with_reducible refine (carrackref00_Same.calls k1 _ _ ((rd_T47 l0 x5_1).f1) _ _ ((rd_T47 l1 x5_1).f1) true _ ?side1 ?side2 ?side3 ?side4 A8.out).mono ?_); (case side1 => repeat (first | exact HR146_4.out | (with_reducible refine Kd.C_alloc ?_ _) | (with_reducible refine Kd.C_drewN ?_ _) | (with_reducible refine Kd.C_drew ?_))); (case side2 => exact HC146_4.out); (case side3 => repeat (first | exact HR147_4.out | (with_reducible refine Kd.C_alloc ?_ _) | (with_reducible refine Kd.C_drewN ?_ _) | (with_reducible refine Kd.C_drew ?_))); (case side4 => exact HC147_4.out); rintro e w' ⟨rfl, ⟨nd, rfl⟩⟩; (try first | exact ⟨rfl, _, World.drewN_drewN _ _ _⟩ | exact ⟨rfl, _, Eq.trans (World.drewN_drewN _ _ _) (congrArg (World.drewN _) (Nat.add_assoc _ _ _))⟩)))
                  repeat (go_quiet (first | (go_at_call 23; (with_reducible refine (carrackref00_Same.calls k1 _ _ ((rd_T47 l0 x5_1).f1) _ _ ((rd_T47 l1 x5_1).f1) true _ ?side1 ?side2 ?side3 ?side4 A8.out).mono ?_); (case side1 => repeat (first | exact HR146_4.out | (with_reducible refine Kd.C_alloc ?_ _) | (with_reducible refine Kd.C_drewN ?_ _) | (with_reducible refine Kd.C_drew ?_))); (case side2 => exact HC146_4.out); (case side3 => repeat (first | exact HR147_4.out | (with_reducible refine Kd.C_alloc ?_ _) | (with_reducible refine Kd.C_drewN ?_ _) | (with_reducible refine Kd.C_drew ?_))); (case side4 => exact HC147_4.out); rintro e w' ⟨rfl, ⟨nd, rfl⟩⟩; (try first | exact ⟨rfl, _, World.drewN_drewN _ _ _⟩ | exact ⟨rfl, _, Eq.trans (World.drewN_drewN _ _ _) (congrArg (World.drewN _) (Nat.add_assoc _ _ _))⟩))); try go_wp2_with (first | (go_at_call 23; (with_reducible refine (carrackref00_Same.calls k1 _ _ ((rd_T47 l0 x5_1).f1) _ _ ((rd_T47 l1 x5_1).f1) true _ ?side1 ?side2 ?side3 ?side4 A8.out).mono ?_); (case side1 => repeat (first | exact HR146_4.out | (with_reducible refine Kd.C_alloc ?_ _) | (with_reducible refine Kd.C_drewN ?_ _) | (with_reducible refine Kd.C_drew ?_))); (case side2 => exact HC146_4.out); (case side3 => repeat (first | exact HR147_4.out | (with_reducible refine Kd.C_alloc ?_ _) | (with_reducible refine Kd.C_drewN ?_ _) | (with_reducible refine Kd.C_drew ?_))); (case side4 => exact HC147_4.out); rintro e w' ⟨rfl, ⟨nd, rfl⟩⟩; (try first | exact ⟨rfl, _, World.drewN_drewN _ _ _⟩ | exact ⟨rfl, _, Eq.trans (World.drewN_drewN _ _ _) (congrArg (World.drewN _) (Nat.add_assoc _ _ _))⟩))))
                  go_roundg k1
                  case measure => have := HK1.out; omega
                  case rel => exact ⟨(wrap64 (x5_1 + 1)), (by first | rfl | (simp; done) | (simp [*]; done)), H', ⟨by have := HK1.out; omega⟩, by repeat (first | exact Drawn0.refl _ | apply Drawn0.step)⟩
                · replace c9 := Bool.eq_false_iff.mpr c9
                  subst c9
                  have H1 : (some false) = some r := by rw [if_neg (show ¬ (false = true) by decide)] at H; exact H
                  clear H
                  have H := H1
                  clear H1
                  obtain rfl := Option.some.inj H
                  have p144 : 0 ≤ (x5_1 : Int) := of_decide_eq_true (by first | (with_reducible assumption) | assumption)
                  have q144 : x5_1 < (l0.length : Int) := of_decide_eq_true (by first | (with_reducible assumption) | assumption)
                  obtain ⟨ad144, A144_4, c144_4, e144, hx144_0, hx144_1, hx144_2, hx144_3, hx144_4, hl144_4, hi144_4⟩ := at_T47 HR0.out x5_1 p144 q144
                  cases e144
                  have HR144_4 := Aside0.mk hi144_4
                  have HC144_4 := Aside0.mk hl144_4
                  clear hi144_4 hl144_4
                  replace p144 := eq_true p144
                  replace q144 := eq_true q144
                  have p145 : 0 ≤ (x5_1 : Int) := of_decide_eq_true (by first | (with_reducible assumption) | assumption)
                  have q145 : x5_1 < (l1.length : Int) := of_decide_eq_true (by first | (with_reducible assumption) | assumption)
                  obtain ⟨ad145, A145_4, c145_4, e145, hx145_0, hx145_1, hx145_2, hx145_3, hx145_4, hl145_4, hi145_4⟩ := at_T47 HR1.out x5_1 p145 q145
                  cases e145
                  have HR145_4 := Aside0.mk hi145_4
                  have HC145_4 := Aside0.mk hl145_4
                  clear hi145_4 hl145_4
                  replace p145 := eq_true p145
                  replace q145 := eq_true q145
                  have p146 : 0 ≤ (x5_1 : Int) := of_decide_eq_true (by first | (with_reducible assumption) | assumption)
                  have q146 : x5_1 < (l0.length : Int) := of_decide_eq_true (by first | (with_reducible assumption) | assumption)
                  obtain ⟨ad146, A146_4, c146_4, e146, hx146_0, hx146_1, hx146_2, hx146_3, hx146_4, hl146_4, hi146_4⟩ := at_T47 HR0.out x5_1 p146 q146
                  obtain rfl : ad144 = ad146 := (by injection e146)
                  have HR146_4 := Aside0.mk hi146_4
                  have HC146_4 := Aside0.mk hl146_4
                  clear hi146_4 hl146_4
                  replace p146 := eq_true p146
                  replace q146 := eq_true q146
                  have ea_ := Option.some.inj (hx144_4.symm.trans hx146_4)
                  injection ea_ with ea_ en_ ec_
                  subst ea_
                  subst ec_
                  clear en_
                  have p147 : 0 ≤ (x5_1 : Int) := of_decide_eq_true (by first | (with_reducible assumption) | assumption)
                  have q147 : x5_1 < (l1.length : Int) := of_decide_eq_true (by first | (with_reducible assumption) | assumption)
                  obtain ⟨ad147, A147_4, c147_4, e147, hx147_0, hx147_1, hx147_2, hx147_3, hx147_4, hl147_4, hi147_4⟩ := at_T47 HR1.out x5_1 p147 q147
                  obtain rfl : ad145 = ad147 := (by injection e147)
                  have HR147_4 := Aside0.mk hi147_4
                  have HC147_4 := Aside0.mk hl147_4
                  clear hi147_4 hl147_4
                  replace p147 := eq_true p147
                  replace q147 := eq_true q147
                  have ea_ := Option.some.inj (hx145_4.symm.trans hx147_4)
                  injection ea_ with ea_ en_ ec_
                  subst ea_
                  subst ec_
                  clear en_
                  go_wp2_with (first | (go_at_call 23; (with_reducible refine (carrackref00_Same.calls k1 _ _ ((rd_T47 l0 x5_1).f1) _ _ ((rd_T47 l1 x5_1).f1) false _ ?side1 ?side2 ?side3 ?side4 A8.out).mono ?_); (case side1 => repeat (first | exact HR146_4.out | (with_reducible refine Kd.C_alloc ?_ _) | (with_reducible refine Kd.C_drewN ?_ _) | (with_reducible refine Kd.C_drew ?_))); (case side2 => exact HC146_4.out); (case side3 => repeat (first | exact HR147_4.out | (with_reducible refine Kd.C_alloc ?_ _) | (with_reducible refine Kd.C_drewN ?_ _) | (with_reducible refine Kd.C_drew ?_))); (case side4 => exact HC147_4.out); rintro e w' ⟨rfl, ⟨nd, rfl⟩⟩; (try first | exact ⟨rfl, _, World.drewN_drewN _ _ _⟩ | exact ⟨rfl, _, Eq.trans (World.drewN_drewN _ _ _) (congrArg (World.drewN _) (Nat.add_assoc _ _ _))⟩)))
                  repeat (go_quiet (first | (go_at_call 23; (with_reducible refine (carrackref00_Same.calls k1 _ _ ((rd_T47 l0 x5_1).f1) _ _ ((rd_T47 l1 x5_1).f1) false _ ?side1 ?side2 ?side3 ?side4 A8.out).mono ?_); (case side1 => repeat (first | exact HR146_4.out | (with_reducible refine Kd.C_alloc ?_ _) | (with_reducible refine Kd.C_drewN ?_ _) | (with_reducible refine Kd.C_drew ?_))); (case side2 => exact HC146_4.out); (case side3 => repeat (first | exact HR147_4.out | (with_reducible refine Kd.C_alloc ?_ _) | (with_reducible refine Kd.C_drewN ?_ _) | (with_reducible refine Kd.C_drew ?_))); (case side4 => exact HC147_4.out); rintro e w' ⟨rfl, ⟨nd, rfl⟩⟩; (try first | exact ⟨rfl, _, World.drewN_drewN _ _ _⟩ | exact ⟨rfl, _, Eq.trans (World.drewN_drewN _ _ _) (congrArg (World.drewN _) (Nat.add_assoc _ _ _))⟩))); try go_wp2_with (first | (go_at_call 23; (with_reducible refine (carrackref00_Same.calls k1 _ _ ((rd_T47 l0 x5_1).f1) _ _ ((rd_T47 l1 x5_1).f1) false _ ?side1 ?side2 ?side3 ?side4 A8.out).mono ?_); (case side1 => repeat (first | exact HR146_4.out | (with_reducible refine Kd.C_alloc ?_ _) | (with_reducible refine Kd.C_drewN ?_ _) | (with_reducible refine Kd.C_drew ?_))); (case side2 => exact HC146_4.out); (case side3 => repeat (first | exact HR147_4.out | (with_reducible refine Kd.C_alloc ?_ _) | (with_reducible refine Kd.C_drewN ?_ _) | (with_reducible refine Kd.C_drew ?_))); (case side4 => exact HC147_4.out); rintro e w' ⟨rfl, ⟨nd, rfl⟩⟩; (try first | exact ⟨rfl, _, World.drewN_drewN _ _ _⟩ | exact ⟨rfl, _, Eq.trans (World.drewN_drewN _ _ _) (congrArg (World.drewN _) (Nat.add_assoc _ _ _))⟩))))
                  go_ret
                  exact ⟨by first | rfl | (simp; done) | (simp [*]; done), by repeat (first | exact Drawn0.refl _ | apply Drawn0.step)⟩
            · rw [if_neg c6] at H
              exact absurd H (by simp)
          · rw [if_neg c5] at H
            exact absurd H (by simp)
        · rw [if_neg c4] at H
          have c4b0 : decide (x5_1 < (l0.length : Int)) = false := decide_eq_false c4
          clear c4
          obtain rfl := Option.some.inj H
          go_wp2
          repeat (go_quiet (fail); try go_wp2)
          go_ret
          exact ⟨by first | rfl | (simp; done) | (simp [*]; done), by repeat (first | exact Drawn0.refl _ | apply Drawn0.step)⟩
  · rw [if_neg c3] at H
    have c3b0 : ((l0.length : Int) == (l1.length : Int)) = false := beq_eq_false_iff_ne.mpr c3
    have c3b1 : ((l0.length : Int) != (l1.length : Int)) = true := bne_iff_ne.mpr c3
    have c3b2 : (l0.length == l1.length) = false := by first | simpa using c3 | (simp at c3 ⊢; omega)
    obtain rfl := Option.some.inj H
    go_enter Try.func19, Try.ntmps19
    go_wp2
    repeat (go_quiet (fail); try go_wp2)
    go_ret
    exact ⟨by first | rfl | (simp; done) | (simp [*]; done), by repeat (first | exact Drawn0.refl _ | apply Drawn0.step)⟩

/-! ### carrackref06_order: function 65 -/
mutual
def carrackref06_order.l0 : Nat → ByteArray → ByteArray → Int → Option (Int)
  | 0, _, _, _ => none
  | k + 1, x0, x1, x5 => if x5 < (x0.size : Int) then (carrackref06_order.j1 k x0 x1 x5 (decide (x5 < (x1.size : Int)))) else (carrackref06_order.j1 k x0 x1 x5 false)
def carrackref06_order.j1 : Nat → ByteArray → ByteArray → Int → Bool → Option (Int)
  | 0, _, _, _, _ => none
  | k + 1, x0, x1, x5, x15 => if x15 = true then (if 0 ≤ x5 then (if x5 < (x0.size : Int) then (if x5 < (x1.size : Int) then (if (bt x0 x5) = (bt x1 x5) then (carrackref06_order.l0 k x0 x1 (wrap64 (x5 + 1))) else (some (wrap64 ((wrap64 (bt x0 x5)) - (wrap64 (bt x1 x5)))))) else (none)) else (none)) else (none)) else (some (wrap64 ((x0.size : Int) - (x1.size : Int))))
end
def carrackref06_order.f (k : Nat) (a0 : ByteArray) (a1 : ByteArray) : Option (Int) := carrackref06_order.l0 k a0 a1 0
theorem carrackref06_order.mono_l : ∀ k, (∀ y0 y1 y2, LeO (carrackref06_order.l0 k y0 y1 y2) (carrackref06_order.l0 (k + 1) y0 y1 y2)) ∧ (∀ y0 y1 y2 y3, LeO (carrackref06_order.j1 k y0 y1 y2 y3) (carrackref06_order.j1 (k + 1) y0 y1 y2 y3))
  | 0 => ⟨fun _ _ _ r h => by simp [carrackref06_order.l0] at h, fun _ _ _ _ r h => by simp [carrackref06_order.j1] at h⟩
  | k + 1 => by
    obtain ⟨ih0, ih1⟩ := carrackref06_order.mono_l k
    refine ⟨?_, ?_⟩
    · intro y0 y1 y2
      unfold carrackref06_order.l0
      repeat' first
      | (with_reducible exact ih0 _ _ _)
      | (with_reducible exact ih1 _ _ _ _)
      | (with_reducible exact LeO.refl _)
      | (with_reducible exact LeO.none _)
      | (with_reducible refine LeO.ite ?_ ?_)
      | (with_reducible refine LeO.bind ?_ (fun _ => ?_))
      | exact ih0 _ _ _
      | exact ih1 _ _ _ _
      | exact LeO.none _
      | refine LeO.ite ?_ ?_
      | refine LeO.bind ?_ (fun _ => ?_)
    · intro y0 y1 y2 y3
      unfold carrackref06_order.j1
      repeat' first
      | (with_reducible exact ih0 _ _ _)
      | (with_reducible exact ih1 _ _ _ _)
      | (with_reducible exact LeO.refl _)
      | (with_reducible exact LeO.none _)
      | (with_reducible refine LeO.ite ?_ ?_)
      | (with_reducible refine LeO.bind ?_ (fun _ => ?_))
      | exact ih0 _ _ _
      | exact ih1 _ _ _ _
      | exact LeO.none _
      | refine LeO.ite ?_ ?_
      | refine LeO.bind ?_ (fun _ => ?_)
theorem carrackref06_order.mono : ∀ a0 a1 k, LeO (carrackref06_order.f k a0 a1) (carrackref06_order.f (k + 1) a0 a1) := by
  intro a0 a1 k
  obtain ⟨ih0, ih1⟩ := carrackref06_order.mono_l k
  unfold carrackref06_order.f
  repeat' first
      | (with_reducible exact ih0 _ _ _)
      | (with_reducible exact ih1 _ _ _ _)
      | (with_reducible exact LeO.refl _)
      | (with_reducible exact LeO.none _)
      | (with_reducible refine LeO.ite ?_ ?_)
      | (with_reducible refine LeO.bind ?_ (fun _ => ?_))
      | exact ih0 _ _ _
      | exact ih1 _ _ _ _
      | exact LeO.none _
      | refine LeO.ite ?_ ?_
      | refine LeO.bind ?_ (fun _ => ?_)
set_option maxHeartbeats 8000000 in
set_option maxRecDepth 100000 in
theorem carrackref06_order.calls (k : Nat) (a0 : ByteArray) (a1 : ByteArray) (r : Int) (w : World) (h : carrackref06_order.f k a0 a1 = some r) :
    Calls Try.prog 65 #[.string a0, .string a1] w fun e w' => e = .returned (.int .i64 r) ∧ Drawn0 w w' := by
  have H : (carrackref06_order.l0 k a0 a1 0) = some r := h
  clear h
  have H' := Aside0.mk H
  clear H
  go_enter Try.func65, Try.ntmps65
  go_wp2
  repeat (go_quiet (fail); try go_wp2)
  go_loopg [5] k (fun kq v5 w' => ∃ (x5_1 : Int), v5 = .int .i64 x5_1 ∧ Aside0 (carrackref06_order.l0 kq a0 a1 x5_1 = some r) ∧ Aside0 (kq ≤ k) ∧ Drawn0 w w')
  case atStart => exact ⟨(0), (by first | rfl | (simp; done) | (simp [*]; done)), H', ⟨Nat.le_refl _⟩, by repeat (first | exact Drawn0.refl _ | apply Drawn0.step)⟩
  case round =>
    clear H'
    try clear p2
    obtain ⟨x5_1, rfl, HA, HK1, ⟨m1, rfl⟩⟩ := hrel
    cases gk with
    | zero => exact absurd HA.out (by simp [carrackref06_order.l0])
    | succ k1 =>
      have H := HA.out
      clear HA
      simp only [carrackref06_order.l0] at H
      have HC3 := Aside0.mk H
      clear H
      go_upto_region 2 with (fail)
      repeat (go_quiet (fail); go_upto_region 2 with (fail))
      go_cut [15] (fun v15 wc => ∃ (kq : Nat) (x15_2 : Bool), v15 = .bool x15_2 ∧ Aside0 (carrackref06_order.j1 kq a0 a1 x5_1 x15_2 = some r) ∧ Aside0 (kq ≤ k1) ∧ Drawn0 w wc)
      case first =>
        have H := HC3.out
        clear HC3
        by_cases c4 : x5_1 < (a0.size : Int)
        · rw [if_pos c4] at H
          have c4b0 : decide (x5_1 < (a0.size : Int)) = true := decide_eq_true c4
          clear c4
          (first | rw [c4b0] | (simp only [i64_w, i32_w]; rw [c4b0]) | skip)
          have H' := Aside0.mk H
          clear H
          go_wp2
          repeat (go_quiet (fail); try go_wp2)
          go_meet
          case rel => exact ⟨_, (decide (x5_1 < (a1.size : Int))), (by first | rfl | (simp; done) | (simp [*]; done)), H', ⟨by have := HK1.out; first | omega | exact Nat.le_refl _⟩, by repeat (first | exact Drawn0.refl _ | apply Drawn0.step)⟩
        · rw [if_neg c4] at H
          have c4b0 : decide (x5_1 < (a0.size : Int)) = false := decide_eq_false c4
          clear c4
          (first | rw [c4b0] | (simp only [i64_w, i32_w]; rw [c4b0]) | skip)
          have H' := Aside0.mk H
          clear H
          go_wp2
          repeat (go_quiet (fail); try go_wp2)
          go_meet
          case rel => exact ⟨_, (false), (by first | rfl | (simp; done) | (simp [*]; done)), H', ⟨by have := HK1.out; first | omega | exact Nat.le_refl _⟩, by repeat (first | exact Drawn0.refl _ | apply Drawn0.step)⟩
      case rest =>
        clear HC3
        try clear p2
        try clear c4
        try clear c4b0
        try clear p2
        obtain ⟨kq, x15_2, rfl, HA, HJ2, ⟨mc2, rfl⟩⟩ := hcut
        cases kq with
        | zero => exact absurd HA.out (by simp [carrackref06_order.j1])
        | succ kj2 =>
          have H := HA.out
          clear HA
          simp only [carrackref06_order.j1] at H
          by_cases c5 : x15_2 = true
          · subst c5
            have H1 : (if 0 ≤ x5_1 then (if x5_1 < (a0.size : Int) then (if x5_1 < (a1.size : Int) then (if (bt a0 x5_1) = (bt a1 x5_1) then (carrackref06_order.l0 kj2 a0 a1 (wrap64 (x5_1 + 1))) else (some (wrap64 ((wrap64 (bt a0 x5_1)) - (wrap64 (bt a1 x5_1)))))) else (none)) else (none)) else (none)) = some r := by rw [if_pos rfl] at H; exact H
            clear H
            have H := H1
            clear H1
            by_cases c6 : 0 ≤ x5_1
            · rw [if_pos c6] at H
              have c6b0 : decide (0 ≤ x5_1) = true := decide_eq_true c6
              clear c6
              by_cases c7 : x5_1 < (a0.size : Int)
              · rw [if_pos c7] at H
                have c7b0 : decide (x5_1 < (a0.size : Int)) = true := decide_eq_true c7
                clear c7
                by_cases c9 : x5_1 < (a1.size : Int)
                · rw [if_pos c9] at H
                  have c9b0 : decide (x5_1 < (a1.size : Int)) = true := decide_eq_true c9
                  clear c9
                  by_cases c11 : (bt a0 x5_1) = (bt a1 x5_1)
                  · rw [if_pos c11] at H
                    have c11b0 : ((bt a0 x5_1) == (bt a1 x5_1)) = true := beq_iff_eq.mpr c11
                    have c11b1 : ((bt a0 x5_1) != (bt a1 x5_1)) = false := bne_eq_false_iff_eq.mpr c11
                    clear c11
                    have H' := Aside0.mk H
                    clear H
                    have p8 : 0 ≤ (x5_1 : Int) := of_decide_eq_true (by first | (with_reducible assumption) | assumption)
                    have q8 : x5_1 < (a0.size : Int) := of_decide_eq_true (by first | (with_reducible assumption) | assumption)
                    have hx8 := bt_at a0 x5_1
                    replace p8 := eq_true p8
                    replace q8 := eq_true q8
                    have p10 : 0 ≤ (x5_1 : Int) := of_decide_eq_true (by first | (with_reducible assumption) | assumption)
                    have q10 : x5_1 < (a1.size : Int) := of_decide_eq_true (by first | (with_reducible assumption) | assumption)
                    have hx10 := bt_at a1 x5_1
                    replace p10 := eq_true p10
                    replace q10 := eq_true q10
                    go_wp2
                    repeat (go_quiet (fail); try go_wp2)
                    go_roundg kj2
                    case measure => have := HK1.out; have := HJ2.out; omega
                    case rel => exact ⟨(wrap64 (x5_1 + 1)), (by first | rfl | (simp; done) | (simp [*]; done)), H', ⟨by have := HK1.out; have := HJ2.out; omega⟩, by repeat (first | exact Drawn0.refl _ | apply Drawn0.step)⟩
                  · rw [if_neg c11] at H
                    have c11b0 : ((bt a0 x5_1) == (bt a1 x5_1)) = false := beq_eq_false_iff_ne.mpr c11
                    have c11b1 : ((bt a0 x5_1) != (bt a1 x5_1)) = true := bne_iff_ne.mpr c11
                    obtain rfl := Option.some.inj H
                    have p8 : 0 ≤ (x5_1 : Int) := of_decide_eq_true (by first | (with_reducible assumption) | assumption)
                    have q8 : x5_1 < (a0.size : Int) := of_decide_eq_true (by first | (with_reducible assumption) | assumption)
                    have hx8 := bt_at a0 x5_1
                    replace p8 := eq_true p8
                    replace q8 := eq_true q8
                    have p10 : 0 ≤ (x5_1 : Int) := of_decide_eq_true (by first | (with_reducible assumption) | assumption)
                    have q10 : x5_1 < (a1.size : Int) := of_decide_eq_true (by first | (with_reducible assumption) | assumption)
                    have hx10 := bt_at a1 x5_1
                    replace p10 := eq_true p10
                    replace q10 := eq_true q10
                    have p12 : 0 ≤ (x5_1 : Int) := of_decide_eq_true (by first | (with_reducible assumption) | assumption)
                    have q12 : x5_1 < (a0.size : Int) := of_decide_eq_true (by first | (with_reducible assumption) | assumption)
                    have hx12 := bt_at a0 x5_1
                    replace p12 := eq_true p12
                    replace q12 := eq_true q12
                    have p13 : 0 ≤ (x5_1 : Int) := of_decide_eq_true (by first | (with_reducible assumption) | assumption)
                    have q13 : x5_1 < (a1.size : Int) := of_decide_eq_true (by first | (with_reducible assumption) | assumption)
                    have hx13 := bt_at a1 x5_1
                    replace p13 := eq_true p13
                    replace q13 := eq_true q13
                    go_wp2
                    repeat (go_quiet (fail); try go_wp2)
                    go_ret
                    exact ⟨by first | rfl | (simp; done) | (simp [*]; done), by repeat (first | exact Drawn0.refl _ | apply Drawn0.step)⟩
                · rw [if_neg c9] at H
                  exact absurd H (by simp)
              · rw [if_neg c7] at H
                exact absurd H (by simp)
            · rw [if_neg c6] at H
              exact absurd H (by simp)
          · replace c5 := Bool.eq_false_iff.mpr c5
            subst c5
            have H1 : (some (wrap64 ((a0.size : Int) - (a1.size : Int)))) = some r := by rw [if_neg (show ¬ (false = true) by decide)] at H; exact H
            clear H
            have H := H1
            clear H1
            obtain rfl := Option.some.inj H
            go_wp2
            repeat (go_quiet (fail); try go_wp2)
            go_ret
            exact ⟨by first | rfl | (simp; done) | (simp [*]; done), by repeat (first | exact Drawn0.refl _ | apply Drawn0.step)⟩

end Go.Proofs.Ytbhmncenbpdcjaa.P
end
section
/- Printed by a program of this workplace (wip/print/gprint.py, over the kit's print.py): functions of the program as Lean functions, and that the Go text comes to their answers. -/
namespace Go.Proofs.Ytbhmncenbpdcjaa.P
open Go.RowKit Go.Proofs.YtbhmncenbpdcjaaW.PrintWords Go.Proofs.YtbhmncenbpdcjaaW.PrintLast Go.Proofs.YtbhmncenbpdcjaaW.PrintMore
attribute [local go_sem] max2_int min2_int max_two min_two max_three min_three max_four min_four   -- for this text's walks alone
set_option linter.unusedVariables false
set_option linter.unusedSimpArgs false

attribute [local go_sem high] eqA30
/-! ### carrackref06_Find: function 22 -/
def carrackref06_Find.l0 : Nat → List (S47) → Int → Int → Int → ByteArray → Int → Option (List Int × Bool)
  | 0, _, _, _, _, _, _ => none
  | k + 1, x0, x6, x181000, x181001, x181002, x181003 => if x6 < (x0.length : Int) then (if 0 ≤ x6 then (if (((rd_T47 x0 x6).f0.f0) == x181000 && (((rd_T47 x0 x6).f0.f1) == x181001 && ((((rd_T47 x0 x6).f0.f2).toList) == x181002.toList && (((rd_T47 x0 x6).f0.f3) == x181003)))) = true then (if ([] : List Int).length + ((rd_T47 x0 x6).f1).length < 140737488355328 then (some ((([] : List Int) ++ ((rd_T47 x0 x6).f1)), true)) else (none)) else (carrackref06_Find.l0 k x0 (wrap64 (x6 + 1)) x181000 x181001 x181002 x181003)) else (none)) else (some (([] : List Int), false))
def carrackref06_Find.f (k : Nat) (l0 : List (S47)) (a1_0 : Int) (a1_1 : Int) (a1_2 : ByteArray) (a1_3 : Int) : Option (List Int × Bool) := (carrackref06_Ordered.f k l0).bind fun t181 => (if t181 = true then (carrackref06_Find.l0 k l0 0 a1_0 a1_1 a1_2 a1_3) else (some (([] : List Int), false)))
theorem carrackref06_Find.mono_l : ∀ k, (∀ y0 y1 y2 y3 y4 y5, LeO (carrackref06_Find.l0 k y0 y1 y2 y3 y4 y5) (carrackref06_Find.l0 (k + 1) y0 y1 y2 y3 y4 y5))
  | 0 => fun _ _ _ _ _ _ r h => by simp [carrackref06_Find.l0] at h
  | k + 1 => by
    have ih0 := carrackref06_Find.mono_l k
    · intro y0 y1 y2 y3 y4 y5
      unfold carrackref06_Find.l0
      repeat' first
      | (with_reducible exact ih0 _ _ _ _ _ _)
      | (with_reducible exact carrackref06_Ordered.mono _ _)
      | (with_reducible exact LeO.refl _)
      | (with_reducible exact LeO.none _)
      | (with_reducible refine LeO.ite ?_ ?_)
      | (with_reducible refine LeO.bind ?_ (fun _ => ?_))
      | exact ih0 _ _ _ _ _ _
      | exact carrackref06_Ordered.mono _ _
      | exact LeO.none _
      | refine LeO.ite ?_ ?_
      | refine LeO.bind ?_ (fun _ => ?_)
theorem carrackref06_Find.mono : ∀ a0 a1 a2 a3 a4 k, LeO (carrackref06_Find.f k a0 a1 a2 a3 a4) (carrackref06_Find.f (k + 1) a0 a1 a2 a3 a4) := by
  intro a0 a1 a2 a3 a4 k
  have ih0 := carrackref06_Find.mono_l k
  unfold carrackref06_Find.f
  repeat' first
      | (with_reducible exact ih0 _ _ _ _ _ _)
      | (with_reducible exact carrackref06_Ordered.mono _ _)
      | (with_reducible exact LeO.refl _)
      | (with_reducible exact LeO.none _)
      | (with_reducible refine LeO.ite ?_ ?_)
      | (with_reducible refine LeO.bind ?_ (fun _ => ?_))
      | exact ih0 _ _ _ _ _ _
      | exact carrackref06_Ordered.mono _ _
      | exact LeO.none _
      | refine LeO.ite ?_ ?_
      | refine LeO.bind ?_ (fun _ => ?_)
set_option maxHeartbeats 8000000 in
set_option maxRecDepth 100000 in
theorem carrackref06_Find.calls (k : Nat) (A0 : Option Addr) (c0 : Nat) (l0 : List (S47)) (a1_0 : Int) (a1_1 : Int) (a1_2 : ByteArray) (a1_3 : Int) (r1 : List Int) (r2 : Bool) (w : World) (hr0 : Kd.C k47 w A0 l0.length l0) (hc0 : l0.length ≤ c0) (h : carrackref06_Find.f k l0 a1_0 a1_1 a1_2 a1_3 = some (r1, r2)) :
    Calls Try.prog 22 #[.slice A0 l0.length c0, .agg #[.int .i64 a1_0, .int .u8 a1_1, .string a1_2, .int .i64 a1_3]] w fun e w' => ∃ v0_ : Value, e = .returned (.tuple #[v0_, .bool r2]) ∧ Kd.R (Kd.int .u8) 5 w' w.heap.size (fun _ => True) v0_ r1 ∧ Below w.heap.size w w' := by
  have hu30 := Try.underlying30
  have HR0 := Aside0.mk hr0
  have HC0 := Aside0.mk hc0
  clear hr0 hc0
  have HB := Aside0.mk (Below.refl w.heap.size w)
  have H : ((carrackref06_Ordered.f k l0).bind fun t181 => (if t181 = true then (carrackref06_Find.l0 k l0 0 a1_0 a1_1 a1_2 a1_3) else (some (([] : List Int), false)))) = some (r1, r2) := h
  clear h
  replace H := Option.bind_eq_some_iff.mp H
  obtain ⟨t181, A30, H⟩ := H
  replace H : (if t181 = true then (carrackref06_Find.l0 k l0 0 a1_0 a1_1 a1_2 a1_3) else (some (([] : List Int), false))) = some (r1, r2) := H
  have A3 := Aside0.mk A30
  clear A30
  by_cases c4 : t181 = true
  · subst c4
    have H1 : (carrackref06_Find.l0 k l0 0 a1_0 a1_1 a1_2 a1_3) = some (r1, r2) := by rw [if_pos rfl] at H; exact H
    clear H
    have H := H1
    clear H1
    have H' := Aside0.mk H
    clear H
    go_enter Try.func22, Try.ntmps22
    go_wp2_with (first | ((with_reducible refine gate_dst (N := 3) rfl ?_); refine box_event ?hg (N := 3) ?hd (cs := #[.int .i64 a1_0, .int .u8 a1_1, .string a1_2, .int .i64 a1_3]) (t := 30) ?hr ?_; (case hd => rfl); (case hg => rfl); (case hr => first | (go_simp; done) | (go_simp; rfl)); intro gb180 hg w5 hbox hb; have n0_ := Aside0.mk (below_step (by repeat (first | (with_reducible first | exact HB.out | apply below_alloc | apply pw_below_drewN | apply below_drew1) | exact HB.out)) hb); have n1_ := Aside0.mk (hbox); have n2_ := Aside0.mk ((by rw [hg]; exact (below_size (by repeat (first | (with_reducible first | exact HB.out | apply below_alloc | apply pw_below_drewN | apply below_drew1) | exact HB.out))) : w.heap.size ≤ gb180)); have n3_ := Aside0.mk ((by rw [hg]; exact (below_size (by repeat (first | (with_reducible first | exact HB.out | apply below_alloc | apply pw_below_drewN | apply below_drew1) | exact HB.out))) : w.heap.size ≤ gb180)); clear HB; have HB := n0_; have BK180 := n1_; have GW180 := n2_; have GE180 := n3_; clear n0_ n1_ n2_ n3_; clear hb hbox hg) | (go_at_call 40; (with_reducible refine (carrackref06_Ordered.calls k _ _ l0 true _ ?side1 ?side2 A3.out).mono ?_); (case side1 => repeat (first | exact (Kd.C_below HR0.out HB.out) | (with_reducible refine Kd.C_alloc ?_ _) | (with_reducible refine Kd.C_drewN ?_ _) | (with_reducible refine Kd.C_drew ?_))); (case side2 => exact HC0.out); rintro e w6 ⟨rfl, hb⟩; have n0_ := Aside0.mk (blk_below (g := gb180) (o := .cells #[.int .i64 a1_0, .int .u8 a1_1, .string a1_2, .int .i64 a1_3] 30 (0, 0)) (by (with_reducible repeat (first | refine blk_drewN ?_ _ | refine blk_drew ?_ | refine blk_alloc ?_ _)); exact BK180.out) hb); have n1_ := Aside0.mk (below_step (by repeat (first | (with_reducible first | exact HB.out | apply below_alloc | apply pw_below_drewN | apply below_drew1 | refine below_set ?_ GE180.out) | exact HB.out)) hb); clear BK180; clear HB; have BK180 := n0_; have HB := n1_; clear n0_ n1_; (try clear hb); (try clear hb2); (try clear hk); (try clear hi)))
    repeat (go_quiet (first | ((with_reducible refine gate_dst (N := 3) rfl ?_); refine box_event ?hg (N := 3) ?hd (cs := #[.int .i64 a1_0, .int .u8 a1_1, .string a1_2, .int .i64 a1_3]) (t := 30) ?hr ?_; (case hd => rfl); (case hg => rfl); (case hr => first | (go_simp; done) | (go_simp; rfl)); intro gb180 hg w5 hbox hb; have n0_ := Aside0.mk (below_step (by repeat (first | (with_reducible first | exact HB.out | apply below_alloc | apply pw_below_drewN | apply below_drew1) | exact HB.out)) hb); have n1_ := Aside0.mk (hbox); have n2_ := Aside0.mk ((by rw [hg]; exact (below_size (by repeat (first | (with_reducible first | exact HB.out | apply below_alloc | apply pw_below_drewN | apply below_drew1) | exact HB.out))) : w.heap.size ≤ gb180)); have n3_ := Aside0.mk ((by rw [hg]; exact (below_size (by repeat (first | (with_reducible first | exact HB.out | apply below_alloc | apply pw_below_drewN | apply below_drew1) | exact HB.out))) : w.heap.size ≤ gb180)); clear HB; have HB := n0_; have BK180 := n1_; have GW180 := n2_; have GE180 := n3_; clear n0_ n1_ n2_ n3_; clear hb hbox hg) | (go_at_call 40; (with_reducible refine (carrackref06_Ordered.calls k _ _ l0 true _ ?side1 ?side2 A3.out).mono ?_); (case side1 => repeat (first | exact (Kd.C_below HR0.out HB.out) | (with_reducible refine Kd.C_alloc ?_ _) | (with_reducible refine Kd.C_drewN ?_ _) | (with_reducible refine Kd.C_drew ?_))); (case side2 => exact HC0.out); rintro e w6 ⟨rfl, hb⟩; have n0_ := Aside0.mk (blk_below (g := gb180) (o := .cells #[.int .i64 a1_0, .int .u8 a1_1, .string a1_2, .int .i64 a1_3] 30 (0, 0)) (by (with_reducible repeat (first | refine blk_drewN ?_ _ | refine blk_drew ?_ | refine blk_alloc ?_ _)); exact BK180.out) hb); have n1_ := Aside0.mk (below_step (by repeat (first | (with_reducible first | exact HB.out | apply below_alloc | apply pw_below_drewN | apply below_drew1 | refine below_set ?_ GE180.out) | exact HB.out)) hb); clear BK180; clear HB; have BK180 := n0_; have HB := n1_; clear n0_ n1_; (try clear hb); (try clear hb2); (try clear hk); (try clear hi))); try go_wp2_with (first | ((with_reducible refine gate_dst (N := 3) rfl ?_); refine box_event ?hg (N := 3) ?hd (cs := #[.int .i64 a1_0, .int .u8 a1_1, .string a1_2, .int .i64 a1_3]) (t := 30) ?hr ?_; (case hd => rfl); (case hg => rfl); (case hr => first | (go_simp; done) | (go_simp; rfl)); intro gb180 hg w5 hbox hb; have n0_ := Aside0.mk (below_step (by repeat (first | (with_reducible first | exact HB.out | apply below_alloc | apply pw_below_drewN | apply below_drew1) | exact HB.out)) hb); have n1_ := Aside0.mk (hbox); have n2_ := Aside0.mk ((by rw [hg]; exact (below_size (by repeat (first | (with_reducible first | exact HB.out | apply below_alloc | apply pw_below_drewN | apply below_drew1) | exact HB.out))) : w.heap.size ≤ gb180)); have n3_ := Aside0.mk ((by rw [hg]; exact (below_size (by repeat (first | (with_reducible first | exact HB.out | apply below_alloc | apply pw_below_drewN | apply below_drew1) | exact HB.out))) : w.heap.size ≤ gb180)); clear HB; have HB := n0_; have BK180 := n1_; have GW180 := n2_; have GE180 := n3_; clear n0_ n1_ n2_ n3_; clear hb hbox hg) | (go_at_call 40; (with_reducible refine (carrackref06_Ordered.calls k _ _ l0 true _ ?side1 ?side2 A3.out).mono ?_); (case side1 => repeat (first | exact (Kd.C_below HR0.out HB.out) | (with_reducible refine Kd.C_alloc ?_ _) | (with_reducible refine Kd.C_drewN ?_ _) | (with_reducible refine Kd.C_drew ?_))); (case side2 => exact HC0.out); rintro e w6 ⟨rfl, hb⟩; have n0_ := Aside0.mk (blk_below (g := gb180) (o := .cells #[.int .i64 a1_0, .int .u8 a1_1, .string a1_2, .int .i64 a1_3] 30 (0, 0)) (by (with_reducible repeat (first | refine blk_drewN ?_ _ | refine blk_drew ?_ | refine blk_alloc ?_ _)); exact BK180.out) hb); have n1_ := Aside0.mk (below_step (by repeat (first | (with_reducible first | exact HB.out | apply below_alloc | apply pw_below_drewN | apply below_drew1 | refine below_set ?_ GE180.out) | exact HB.out)) hb); clear BK180; clear HB; have BK180 := n0_; have HB := n1_; clear n0_ n1_; (try clear hb); (try clear hb2); (try clear hk); (try clear hi))))
    go_loopg [6] k (fun kq v6 w' => ∃ (x6_1 : Int), v6 = .int .i64 x6_1 ∧ Aside0 (carrackref06_Find.l0 kq l0 x6_1 a1_0 a1_1 a1_2 a1_3 = some (r1, r2)) ∧ Aside0 (kq ≤ k) ∧ Aside0 (w'.heap[gb180]? = some (.cells #[.int .i64 a1_0, .int .u8 a1_1, .string a1_2, .int .i64 a1_3] 30 (0, 0))) ∧ Aside0 (Below w.heap.size w w'))
    case atStart => exact ⟨(0), (by first | rfl | (simp; done) | (simp [*]; done)), H', ⟨Nat.le_refl _⟩, ⟨by (with_reducible repeat (first | refine blk_drewN ?_ _ | refine blk_drew ?_ | refine blk_alloc ?_ _)); exact BK180.out⟩, ⟨by repeat (first | (with_reducible first | exact HB.out | apply below_alloc | apply pw_below_drewN | apply below_drew1 | refine below_set ?_ GE180.out) | exact HB.out)⟩⟩
    case round =>
      clear H'
      try clear c2
      try clear p2
      try clear c4
      obtain ⟨x6_1, rfl, HA, HK1, BK180, HB⟩ := hrel
      cases gk with
      | zero => exact absurd HA.out (by simp [carrackref06_Find.l0])
      | succ k1 =>
        have H := HA.out
        clear HA
        simp only [carrackref06_Find.l0] at H
        by_cases c7 : x6_1 < (l0.length : Int)
        · rw [if_pos c7] at H
          have c7b0 : decide (x6_1 < (l0.length : Int)) = true := decide_eq_true c7
          clear c7
          by_cases c8 : 0 ≤ x6_1
          · rw [if_pos c8] at H
            have c8b0 : decide (0 ≤ x6_1) = true := decide_eq_true c8
            clear c8
            by_cases c9 : (((rd_T47 l0 x6_1).f0.f0) == a1_0 && (((rd_T47 l0 x6_1).f0.f1) == a1_1 && ((((rd_T47 l0 x6_1).f0.f2).toList) == a1_2.toList && (((rd_T47 l0 x6_1).f0.f3) == a1_3)))) = true
            · rw [if_pos c9] at H
              have c9b0 : (((rd_T47 l0 x6_1).f0.f0) == a1_0 && (((rd_T47 l0 x6_1).f0.f1) == a1_1 && ((((rd_T47 l0 x6_1).f0.f2).toList) == a1_2.toList && (((rd_T47 l0 x6_1).f0.f3) == a1_3)))) = true := c9
              (try (have c9b1 : decide (((rd_T47 l0 x6_1).f0.f0) = a1_0 && (((rd_T47 l0 x6_1).f0.f1) == a1_1 && ((((rd_T47 l0 x6_1).f0.f2).toList) == a1_2.toList && (((rd_T47 l0 x6_1).f0.f3) == a1_3)))) = true := by simpa using c9))
              (try (have c9b2 : (((rd_T47 l0 x6_1).f0.f0) == a1_0 && (((rd_T47 l0 x6_1).f0.f1) == a1_1 && ((((rd_T47 l0 x6_1).f0.f2).toList) == a1_2.toList && (((rd_T47 l0 x6_1).f0.f3) == a1_3)))) = true := by simpa using c9))
              clear c9
              by_cases c10 : ([] : List Int).length + ((rd_T47 l0 x6_1).f1).length < 140737488355328
              · rw [if_pos c10] at H
                have LMc10 := Aside0.mk c10
                clear c10
                obtain ⟨y184, hy184⟩ : ∃ y_ : List Int, y_ = (([] : List Int) ++ ((rd_T47 l0 x6_1).f1)) := ⟨_, rfl⟩
                replace H : (some (y184, true)) = some (r1, r2) := by first | (rw [hy184]; with_reducible exact H) | (have H2_ := (Option.bind_some _ _).symm.trans H; rw [hy184]; with_reducible exact H2_) | (have H2_ := (Option.bind_some _ _).symm.trans H; with_reducible exact H2_) | with_reducible exact H | (rw [hy184]; exact H) | exact H
                have Ny184 := Aside0.mk hy184
                clear hy184
                simp only [Option.some.injEq, Prod.mk.injEq] at H
                obtain ⟨rfl, rfl⟩ := H
                have p182 : 0 ≤ (x6_1 : Int) := of_decide_eq_true (by first | (with_reducible assumption) | assumption)
                have q182 : x6_1 < (l0.length : Int) := of_decide_eq_true (by first | (with_reducible assumption) | assumption)
                obtain ⟨ad182, A182_4, c182_4, e182, hx182_0, hx182_1, hx182_2, hx182_3, hx182_4, hl182_4, hi182_4⟩ := at_T47 HR0.out x6_1 p182 q182
                cases e182
                replace hx182_0 := (HB.out.cell (World.block_lt_of_cell? w _ hx182_0)).trans hx182_0
                replace hx182_1 := (HB.out.cell (World.block_lt_of_cell? w _ hx182_1)).trans hx182_1
                replace hx182_2 := (HB.out.cell (World.block_lt_of_cell? w _ hx182_2)).trans hx182_2
                replace hx182_3 := (HB.out.cell (World.block_lt_of_cell? w _ hx182_3)).trans hx182_3
                replace hx182_4 := (HB.out.cell (World.block_lt_of_cell? w _ hx182_4)).trans hx182_4
                have HR182_4 := Aside0.mk hi182_4
                have HC182_4 := Aside0.mk hl182_4
                clear hi182_4 hl182_4
                replace p182 := eq_true p182
                replace q182 := eq_true q182
                have hcz11_0 : wr.cell? ⟨gb180, 0, none⟩ = some (.int .i64 a1_0) := (blk_cell BK180.out 0).trans rfl
                have hcz11_1 : wr.cell? ⟨gb180, 1, none⟩ = some (.int .u8 a1_1) := (blk_cell BK180.out 1).trans rfl
                have hcz11_2 : wr.cell? ⟨gb180, 2, none⟩ = some (.string a1_2) := (blk_cell BK180.out 2).trans rfl
                have hcz11_3 : wr.cell? ⟨gb180, 3, none⟩ = some (.int .i64 a1_3) := (blk_cell BK180.out 3).trans rfl
                have hfz11_0 := blk_frozen BK180.out 0
                have hfz11_1 := blk_frozen BK180.out 1
                have hfz11_2 := blk_frozen BK180.out 2
                have hfz11_3 := blk_frozen BK180.out 3
                have p183 : 0 ≤ (x6_1 : Int) := of_decide_eq_true (by first | (with_reducible assumption) | assumption)
                have q183 : x6_1 < (l0.length : Int) := of_decide_eq_true (by first | (with_reducible assumption) | assumption)
                obtain ⟨ad183, A183_4, c183_4, e183, hx183_0, hx183_1, hx183_2, hx183_3, hx183_4, hl183_4, hi183_4⟩ := at_T47 HR0.out x6_1 p183 q183
                obtain rfl : ad182 = ad183 := (by injection e183)
                replace hx183_0 := (HB.out.cell (World.block_lt_of_cell? w _ hx183_0)).trans hx183_0
                replace hx183_1 := (HB.out.cell (World.block_lt_of_cell? w _ hx183_1)).trans hx183_1
                replace hx183_2 := (HB.out.cell (World.block_lt_of_cell? w _ hx183_2)).trans hx183_2
                replace hx183_3 := (HB.out.cell (World.block_lt_of_cell? w _ hx183_3)).trans hx183_3
                replace hx183_4 := (HB.out.cell (World.block_lt_of_cell? w _ hx183_4)).trans hx183_4
                have HR183_4 := Aside0.mk hi183_4
                have HC183_4 := Aside0.mk hl183_4
                clear hi183_4 hl183_4
                replace p183 := eq_true p183
                replace q183 := eq_true q183
                have ea_ := Option.some.inj (hx182_4.symm.trans hx183_4)
                injection ea_ with ea_ en_ ec_
                subst ea_
                subst ec_
                clear en_
                go_wp2_with (first | ((with_reducible refine gate_builtin (b := .append) (xs := #[.tmp 24, .tmp 29]) rfl ?_); at_builtin; refine Kd.R_append_rows (Kd.int .u8) (w0 := w) w.heap.size rfl (.tmp 24) (.tmp 29) 22 5 (.int .u8 0) 1 rfl Try.underlying22 info5 rfl (by decide) (by omega) (.slice none 0 0) ([] : List Int) ((rd_T47 l0 x6_1).f1) _ _ _ (fun _ => True) (fun _ => False) rfl rfl ?aO ?aR (fun _ _ h => h) (fun _ h => h.elim) ?aF ?aB ?aS ?aL ?_; (case aR => repeat (first | exact (Kd.C_below HR183_4.out HB.out) | exact (Kd.C_drewN (Kd.C_below HR183_4.out HB.out) _) | exact (Kd.C_drew (Kd.C_below HR183_4.out HB.out)) | (with_reducible refine Kd.C_alloc ?_ _) | (with_reducible refine Kd.C_drewN ?_ _) | (with_reducible refine Kd.C_drew ?_))); (case aB => exact (by repeat (first | (with_reducible first | exact HB.out | apply below_alloc | apply pw_below_drewN | apply below_drew1 | refine below_set ?_ GE180.out) | exact HB.out))); (case aF => exact (fun _ _ => trivial)); (case aO => exact ((Kd.R_nil _ _ _ _ (fun _ => True)))); (case aS => exact (below_size (by repeat (first | (with_reducible first | exact HB.out | apply below_alloc | apply pw_below_drewN | apply below_drew1 | refine below_set ?_ GE180.out) | exact HB.out)))); (case aL => have := LMc10.out; omega); intro v185 w12 ho hb hg hat; rw [← Ny184.out] at ho; have n0_ := Aside0.mk (blk_grown (g := gb180) (o := .cells #[.int .i64 a1_0, .int .u8 a1_1, .string a1_2, .int .i64 a1_3] 30 (0, 0)) (by (with_reducible repeat (first | refine blk_drewN ?_ _ | refine blk_drew ?_ | refine blk_alloc ?_ _)); exact BK180.out) hg (by simp [Value.ownBlock])); have n1_ := Aside0.mk (hb); have n2_ := Aside0.mk (ho); clear BK180; clear HB; have BK180 := n0_; have HB := n1_; have HO186 := n2_; clear n0_ n1_ n2_; clear ho hb hg hat))
                repeat (go_quiet (first | ((with_reducible refine gate_builtin (b := .append) (xs := #[.tmp 24, .tmp 29]) rfl ?_); at_builtin; refine Kd.R_append_rows (Kd.int .u8) (w0 := w) w.heap.size rfl (.tmp 24) (.tmp 29) 22 5 (.int .u8 0) 1 rfl Try.underlying22 info5 rfl (by decide) (by omega) (.slice none 0 0) ([] : List Int) ((rd_T47 l0 x6_1).f1) _ _ _ (fun _ => True) (fun _ => False) rfl rfl ?aO ?aR (fun _ _ h => h) (fun _ h => h.elim) ?aF ?aB ?aS ?aL ?_; (case aR => repeat (first | exact (Kd.C_below HR183_4.out HB.out) | exact (Kd.C_drewN (Kd.C_below HR183_4.out HB.out) _) | exact (Kd.C_drew (Kd.C_below HR183_4.out HB.out)) | (with_reducible refine Kd.C_alloc ?_ _) | (with_reducible refine Kd.C_drewN ?_ _) | (with_reducible refine Kd.C_drew ?_))); (case aB => exact (by repeat (first | (with_reducible first | exact HB.out | apply below_alloc | apply pw_below_drewN | apply below_drew1 | refine below_set ?_ GE180.out) | exact HB.out))); (case aF => exact (fun _ _ => trivial)); (case aO => exact ((Kd.R_nil _ _ _ _ (fun _ => True)))); (case aS => exact (below_size (by repeat (first | (with_reducible first | exact HB.out | apply below_alloc | apply pw_below_drewN | apply below_drew1 | refine below_set ?_ GE180.out) | exact HB.out)))); (case aL => have := LMc10.out; omega); intro v185 w12 ho hb hg hat; rw [← Ny184.out] at ho; have n0_ := Aside0.mk (blk_grown (g := gb180) (o := .cells #[.int .i64 a1_0, .int .u8 a1_1, .string a1_2, .int .i64 a1_3] 30 (0, 0)) (by (with_reducible repeat (first | refine blk_drewN ?_ _ | refine blk_drew ?_ | refine blk_alloc ?_ _)); exact BK180.out) hg (by simp [Value.ownBlock])); have n1_ := Aside0.mk (hb); have n2_ := Aside0.mk (ho); clear BK180; clear HB; have BK180 := n0_; have HB := n1_; have HO186 := n2_; clear n0_ n1_ n2_; clear ho hb hg hat)); try go_wp2_with (first | ((with_reducible refine gate_builtin (b := .append) (xs := #[.tmp 24, .tmp 29]) rfl ?_); at_builtin; refine Kd.R_append_rows (Kd.int .u8) (w0 := w) w.heap.size rfl (.tmp 24) (.tmp 29) 22 5 (.int .u8 0) 1 rfl Try.underlying22 info5 rfl (by decide) (by omega) (.slice none 0 0) ([] : List Int) ((rd_T47 l0 x6_1).f1) _ _ _ (fun _ => True) (fun _ => False) rfl rfl ?aO ?aR (fun _ _ h => h) (fun _ h => h.elim) ?aF ?aB ?aS ?aL ?_; (case aR => repeat (first | exact (Kd.C_below HR183_4.out HB.out) | exact (Kd.C_drewN (Kd.C_below HR183_4.out HB.out) _) | exact (Kd.C_drew (Kd.C_below HR183_4.out HB.out)) | (with_reducible refine Kd.C_alloc ?_ _) | (with_reducible refine Kd.C_drewN ?_ _) | (with_reducible refine Kd.C_drew ?_))); (case aB => exact (by repeat (first | (with_reducible first | exact HB.out | apply below_alloc | apply pw_below_drewN | apply below_drew1 | refine below_set ?_ GE180.out) | exact HB.out))); (case aF => exact (fun _ _ => trivial)); (case aO => exact ((Kd.R_nil _ _ _ _ (fun _ => True)))); (case aS => exact (below_size (by repeat (first | (with_reducible first | exact HB.out | apply below_alloc | apply pw_below_drewN | apply below_drew1 | refine below_set ?_ GE180.out) | exact HB.out)))); (case aL => have := LMc10.out; omega); intro v185 w12 ho hb hg hat; rw [← Ny184.out] at ho; have n0_ := Aside0.mk (blk_grown (g := gb180) (o := .cells #[.int .i64 a1_0, .int .u8 a1_1, .string a1_2, .int .i64 a1_3] 30 (0, 0)) (by (with_reducible repeat (first | refine blk_drewN ?_ _ | refine blk_drew ?_ | refine blk_alloc ?_ _)); exact BK180.out) hg (by simp [Value.ownBlock])); have n1_ := Aside0.mk (hb); have n2_ := Aside0.mk (ho); clear BK180; clear HB; have BK180 := n0_; have HB := n1_; have HO186 := n2_; clear n0_ n1_ n2_; clear ho hb hg hat)))
                go_ret2
                exact ⟨_, by first | rfl | (simp [errW_none, errW_some] <;> rfl) | (simp [*, errW_none, errW_some] <;> rfl), by (with_reducible repeat (first | apply Kd.R_alloc | apply Kd.R_drewN | apply Kd.R_drew)); exact HO186.out, by repeat (first | (with_reducible first | exact HB.out | apply below_alloc | apply pw_below_drewN | apply below_drew1 | refine below_set ?_ GE180.out) | exact HB.out)⟩
              · rw [if_neg c10] at H
                exact absurd H (by simp)
            · rw [if_neg c9] at H
              have c9b0 : (((rd_T47 l0 x6_1).f0.f0) == a1_0 && (((rd_T47 l0 x6_1).f0.f1) == a1_1 && ((((rd_T47 l0 x6_1).f0.f2).toList) == a1_2.toList && (((rd_T47 l0 x6_1).f0.f3) == a1_3)))) = false := by simpa using c9
              (try (have c9b1 : decide (((rd_T47 l0 x6_1).f0.f0) = a1_0 && (((rd_T47 l0 x6_1).f0.f1) == a1_1 && ((((rd_T47 l0 x6_1).f0.f2).toList) == a1_2.toList && (((rd_T47 l0 x6_1).f0.f3) == a1_3)))) = false := by simpa using c9))
              (try (have c9b2 : (((rd_T47 l0 x6_1).f0.f0) == a1_0 && (((rd_T47 l0 x6_1).f0.f1) == a1_1 && ((((rd_T47 l0 x6_1).f0.f2).toList) == a1_2.toList && (((rd_T47 l0 x6_1).f0.f3) == a1_3)))) = false := by simpa using c9))
              (try (have c9b3 : ¬ (((rd_T47 l0 x6_1).f0.f0) = a1_0 && (((rd_T47 l0 x6_1).f0.f1) == a1_1 && ((((rd_T47 l0 x6_1).f0.f2).toList) == a1_2.toList && (((rd_T47 l0 x6_1).f0.f3) == a1_3)))) := by simpa using c9))
              clear c9
              have H' := Aside0.mk H
              clear H
              have p182 : 0 ≤ (x6_1 : Int) := of_decide_eq_true (by first | (with_reducible assumption) | assumption)
              have q182 : x6_1 < (l0.length : Int) := of_decide_eq_true (by first | (with_reducible assumption) | assumption)
              obtain ⟨ad182, A182_4, c182_4, e182, hx182_0, hx182_1, hx182_2, hx182_3, hx182_4, hl182_4, hi182_4⟩ := at_T47 HR0.out x6_1 p182 q182
              cases e182
              replace hx182_0 := (HB.out.cell (World.block_lt_of_cell? w _ hx182_0)).trans hx182_0
              replace hx182_1 := (HB.out.cell (World.block_lt_of_cell? w _ hx182_1)).trans hx182_1
              replace hx182_2 := (HB.out.cell (World.block_lt_of_cell? w _ hx182_2)).trans hx182_2
              replace hx182_3 := (HB.out.cell (World.block_lt_of_cell? w _ hx182_3)).trans hx182_3
              replace hx182_4 := (HB.out.cell (World.block_lt_of_cell? w _ hx182_4)).trans hx182_4
              have HR182_4 := Aside0.mk hi182_4
              have HC182_4 := Aside0.mk hl182_4
              clear hi182_4 hl182_4
              replace p182 := eq_true p182
              replace q182 := eq_true q182
              have hcz13_0 : wr.cell? ⟨gb180, 0, none⟩ = some (.int .i64 a1_0) := (blk_cell BK180.out 0).trans rfl
              have hcz13_1 : wr.cell? ⟨gb180, 1, none⟩ = some (.int .u8 a1_1) := (blk_cell BK180.out 1).trans rfl
              have hcz13_2 : wr.cell? ⟨gb180, 2, none⟩ = some (.string a1_2) := (blk_cell BK180.out 2).trans rfl
              have hcz13_3 : wr.cell? ⟨gb180, 3, none⟩ = some (.int .i64 a1_3) := (blk_cell BK180.out 3).trans rfl
              have hfz13_0 := blk_frozen BK180.out 0
              have hfz13_1 := blk_frozen BK180.out 1
              have hfz13_2 := blk_frozen BK180.out 2
              have hfz13_3 := blk_frozen BK180.out 3
              go_wp2
              repeat (go_quiet (fail); try go_wp2)
              go_roundg k1
              case measure => have := HK1.out; omega
              case rel => exact ⟨(wrap64 (x6_1 + 1)), (by first | rfl | (simp; done) | (simp [*]; done)), H', ⟨by have := HK1.out; omega⟩, ⟨by (with_reducible repeat (first | refine blk_drewN ?_ _ | refine blk_drew ?_ | refine blk_alloc ?_ _)); exact BK180.out⟩, ⟨by repeat (first | (with_reducible first | exact HB.out | apply below_alloc | apply pw_below_drewN | apply below_drew1 | refine below_set ?_ GE180.out) | exact HB.out)⟩⟩
          · rw [if_neg c8] at H
            exact absurd H (by simp)
        · rw [if_neg c7] at H
          have c7b0 : decide (x6_1 < (l0.length : Int)) = false := decide_eq_false c7
          clear c7
          simp only [Option.some.injEq, Prod.mk.injEq] at H
          obtain ⟨rfl, rfl⟩ := H
          go_wp2
          repeat (go_quiet (fail); try go_wp2)
          go_ret2
          exact ⟨_, by first | rfl | (simp [errW_none, errW_some] <;> rfl) | (simp [*, errW_none, errW_some] <;> rfl), by first | exact Kd.R_nil _ _ _ _ _ | exact Kd.N_nil _ _ _ _ _ | exact Kd.V_nil _ _ _ _ _ | exact Kd.Q_nil _ _ _ _ _ | exact Kd.S_nil _ _ _ _ _, by repeat (first | (with_reducible first | exact HB.out | apply below_alloc | apply pw_below_drewN | apply below_drew1 | refine below_set ?_ GE180.out) | exact HB.out)⟩
  · replace c4 := Bool.eq_false_iff.mpr c4
    subst c4
    have H1 : (some (([] : List Int), false)) = some (r1, r2) := by rw [if_neg (show ¬ (false = true) by decide)] at H; exact H
    clear H
    have H := H1
    clear H1
    simp only [Option.some.injEq, Prod.mk.injEq] at H
    obtain ⟨rfl, rfl⟩ := H
    go_enter Try.func22, Try.ntmps22
    go_wp2_with (first | ((with_reducible refine gate_dst (N := 3) rfl ?_); refine box_event ?hg (N := 3) ?hd (cs := #[.int .i64 a1_0, .int .u8 a1_1, .string a1_2, .int .i64 a1_3]) (t := 30) ?hr ?_; (case hd => rfl); (case hg => rfl); (case hr => first | (go_simp; done) | (go_simp; rfl)); intro gb180 hg w14 hbox hb; have n0_ := Aside0.mk (below_step (by repeat (first | (with_reducible first | exact HB.out | apply below_alloc | apply pw_below_drewN | apply below_drew1) | exact HB.out)) hb); have n1_ := Aside0.mk (hbox); have n2_ := Aside0.mk ((by rw [hg]; exact (below_size (by repeat (first | (with_reducible first | exact HB.out | apply below_alloc | apply pw_below_drewN | apply below_drew1) | exact HB.out))) : w.heap.size ≤ gb180)); have n3_ := Aside0.mk ((by rw [hg]; exact (below_size (by repeat (first | (with_reducible first | exact HB.out | apply below_alloc | apply pw_below_drewN | apply below_drew1) | exact HB.out))) : w.heap.size ≤ gb180)); clear HB; have HB := n0_; have BK180 := n1_; have GW180 := n2_; have GE180 := n3_; clear n0_ n1_ n2_ n3_; clear hb hbox hg) | (go_at_call 40; (with_reducible refine (carrackref06_Ordered.calls k _ _ l0 false _ ?side1 ?side2 A3.out).mono ?_); (case side1 => repeat (first | exact (Kd.C_below HR0.out HB.out) | (with_reducible refine Kd.C_alloc ?_ _) | (with_reducible refine Kd.C_drewN ?_ _) | (with_reducible refine Kd.C_drew ?_))); (case side2 => exact HC0.out); rintro e w15 ⟨rfl, hb⟩; have n0_ := Aside0.mk (blk_below (g := gb180) (o := .cells #[.int .i64 a1_0, .int .u8 a1_1, .string a1_2, .int .i64 a1_3] 30 (0, 0)) (by (with_reducible repeat (first | refine blk_drewN ?_ _ | refine blk_drew ?_ | refine blk_alloc ?_ _)); exact BK180.out) hb); have n1_ := Aside0.mk (below_step (by repeat (first | (with_reducible first | exact HB.out | apply below_alloc | apply pw_below_drewN | apply below_drew1 | refine below_set ?_ GE180.out) | exact HB.out)) hb); clear BK180; clear HB; have BK180 := n0_; have HB := n1_; clear n0_ n1_; (try clear hb); (try clear hb2); (try clear hk); (try clear hi)))
    repeat (go_quiet (first | ((with_reducible refine gate_dst (N := 3) rfl ?_); refine box_event ?hg (N := 3) ?hd (cs := #[.int .i64 a1_0, .int .u8 a1_1, .string a1_2, .int .i64 a1_3]) (t := 30) ?hr ?_; (case hd => rfl); (case hg => rfl); (case hr => first | (go_simp; done) | (go_simp; rfl)); intro gb180 hg w14 hbox hb; have n0_ := Aside0.mk (below_step (by repeat (first | (with_reducible first | exact HB.out | apply below_alloc | apply pw_below_drewN | apply below_drew1) | exact HB.out)) hb); have n1_ := Aside0.mk (hbox); have n2_ := Aside0.mk ((by rw [hg]; exact (below_size (by repeat (first | (with_reducible first | exact HB.out | apply below_alloc | apply pw_below_drewN | apply below_drew1) | exact HB.out))) : w.heap.size ≤ gb180)); have n3_ := Aside0.mk ((by rw [hg]; exact (below_size (by repeat (first | (with_reducible first | exact HB.out | apply below_alloc | apply pw_below_drewN | apply below_drew1) | exact HB.out))) : w.heap.size ≤ gb180)); clear HB; have HB := n0_; have BK180 := n1_; have GW180 := n2_; have GE180 := n3_; clear n0_ n1_ n2_ n3_; clear hb hbox hg) | (go_at_call 40; (with_reducible refine (carrackref06_Ordered.calls k _ _ l0 false _ ?side1 ?side2 A3.out).mono ?_); (case side1 => repeat (first | exact (Kd.C_below HR0.out HB.out) | (with_reducible refine Kd.C_alloc ?_ _) | (with_reducible refine Kd.C_drewN ?_ _) | (with_reducible refine Kd.C_drew ?_))); (case side2 => exact HC0.out); rintro e w15 ⟨rfl, hb⟩; have n0_ := Aside0.mk (blk_below (g := gb180) (o := .cells #[.int .i64 a1_0, .int .u8 a1_1, .string a1_2, .int .i64 a1_3] 30 (0, 0)) (by (with_reducible repeat (first | refine blk_drewN ?_ _ | refine blk_drew ?_ | refine blk_alloc ?_ _)); exact BK180.out) hb); have n1_ := Aside0.mk (below_step (by repeat (first | (with_reducible first | exact HB.out | apply below_alloc | apply pw_below_drewN | apply below_drew1 | refine below_set ?_ GE180.out) | exact HB.out)) hb); clear BK180; clear HB; have BK180 := n0_; have HB := n1_; clear n0_ n1_; (try clear hb); (try clear hb2); (try clear hk); (try clear hi))); try go_wp2_with (first | ((with_reducible refine gate_dst (N := 3) rfl ?_); refine box_event ?hg (N := 3) ?hd (cs := #[.int .i64 a1_0, .int .u8 a1_1, .string a1_2, .int .i64 a1_3]) (t := 30) ?hr ?_; (case hd => rfl); (case hg => rfl); (case hr => first | (go_simp; done) | (go_simp; rfl)); intro gb180 hg w14 hbox hb; have n0_ := Aside0.mk (below_step (by repeat (first | (with_reducible first | exact HB.out | apply below_alloc | apply pw_below_drewN | apply below_drew1) | exact HB.out)) hb); have n1_ := Aside0.mk (hbox); have n2_ := Aside0.mk ((by rw [hg]; exact (below_size (by repeat (first | (with_reducible first | exact HB.out | apply below_alloc | apply pw_below_drewN | apply below_drew1) | exact HB.out))) : w.heap.size ≤ gb180)); have n3_ := Aside0.mk ((by rw [hg]; exact (below_size (by repeat (first | (with_reducible first | exact HB.out | apply below_alloc | apply pw_below_drewN | apply below_drew1) | exact HB.out))) : w.heap.size ≤ gb180)); clear HB; have HB := n0_; have BK180 := n1_; have GW180 := n2_; have GE180 := n3_; clear n0_ n1_ n2_ n3_; clear hb hbox hg) | (go_at_call 40; (with_reducible refine (carrackref06_Ordered.calls k _ _ l0 false _ ?side1 ?side2 A3.out).mono ?_); (case side1 => repeat (first | exact (Kd.C_below HR0.out HB.out) | (with_reducible refine Kd.C_alloc ?_ _) | (with_reducible refine Kd.C_drewN ?_ _) | (with_reducible refine Kd.C_drew ?_))); (case side2 => exact HC0.out); rintro e w15 ⟨rfl, hb⟩; have n0_ := Aside0.mk (blk_below (g := gb180) (o := .cells #[.int .i64 a1_0, .int .u8 a1_1, .string a1_2, .int .i64 a1_3] 30 (0, 0)) (by (with_reducible repeat (first | refine blk_drewN ?_ _ | refine blk_drew ?_ | refine blk_alloc ?_ _)); exact BK180.out) hb); have n1_ := Aside0.mk (below_step (by repeat (first | (with_reducible first | exact HB.out | apply below_alloc | apply pw_below_drewN | apply below_drew1 | refine below_set ?_ GE180.out) | exact HB.out)) hb); clear BK180; clear HB; have BK180 := n0_; have HB := n1_; clear n0_ n1_; (try clear hb); (try clear hb2); (try clear hk); (try clear hi))))
    go_ret2
    exact ⟨_, by first | rfl | (simp [errW_none, errW_some] <;> rfl) | (simp [*, errW_none, errW_some] <;> rfl), by first | exact Kd.R_nil _ _ _ _ _ | exact Kd.N_nil _ _ _ _ _ | exact Kd.V_nil _ _ _ _ _ | exact Kd.Q_nil _ _ _ _ _ | exact Kd.S_nil _ _ _ _ _, by repeat (first | (with_reducible first | exact HB.out | apply below_alloc | apply pw_below_drewN | apply below_drew1 | refine below_set ?_ GE180.out) | exact HB.out)⟩

-- NOT PRINTED: function 42 (api_Fact_42)

end Go.Proofs.Ytbhmncenbpdcjaa.P
end
section
/- Printed by a program of this workplace (wip/print/gprint.py, over the kit's print.py): functions of the program as Lean functions, and that the Go text comes to their answers. -/
namespace Go.Proofs.Ytbhmncenbpdcjaa.P
open Go.RowKit Go.Proofs.YtbhmncenbpdcjaaW.PrintWords Go.Proofs.YtbhmncenbpdcjaaW.PrintLast Go.Proofs.YtbhmncenbpdcjaaW.PrintMore
attribute [local go_sem] max2_int min2_int max_two min_two max_three min_three max_four min_four   -- for this text's walks alone
set_option linter.unusedVariables false
set_option linter.unusedSimpArgs false

-- NOT PRINTED: function 4 (carracklaw06_FactFresh)

/-! ### slices_Equal_byte_byte: function 44 -/
def slices_Equal_byte_byte.l0 : Nat → List Int → List Int → Int → Int → Option (Bool)
  | 0, _, _, _, _ => none
  | k + 1, x0, x1, x12, x13 => if x13 < x12 then (if 0 ≤ x13 then (if x13 < (x0.length : Int) then (if x13 < (x1.length : Int) then (if (rd x0 x13) = (rd x1 x13) then (slices_Equal_byte_byte.l0 k x0 x1 x12 (wrap64 (x13 + 1))) else (some false)) else (none)) else (none)) else (none)) else (some true)
def slices_Equal_byte_byte.f (k : Nat) (l0 : List Int) (l1 : List Int) : Option (Bool) := if (l0.length : Int) = (l1.length : Int) then (slices_Equal_byte_byte.l0 k l0 l1 (l0.length : Int) 0) else (some false)
theorem slices_Equal_byte_byte.mono_l : ∀ k, (∀ y0 y1 y2 y3, LeO (slices_Equal_byte_byte.l0 k y0 y1 y2 y3) (slices_Equal_byte_byte.l0 (k + 1) y0 y1 y2 y3))
  | 0 => fun _ _ _ _ r h => by simp [slices_Equal_byte_byte.l0] at h
  | k + 1 => by
    have ih0 := slices_Equal_byte_byte.mono_l k
    · intro y0 y1 y2 y3
      unfold slices_Equal_byte_byte.l0
      repeat' first
      | (with_reducible exact ih0 _ _ _ _)
      | (with_reducible exact LeO.refl _)
      | (with_reducible exact LeO.none _)
      | (with_reducible refine LeO.ite ?_ ?_)
      | (with_reducible refine LeO.bind ?_ (fun _ => ?_))
      | exact ih0 _ _ _ _
      | exact LeO.none _
      | refine LeO.ite ?_ ?_
      | refine LeO.bind ?_ (fun _ => ?_)
theorem slices_Equal_byte_byte.mono : ∀ a0 a1 k, LeO (slices_Equal_byte_byte.f k a0 a1) (slices_Equal_byte_byte.f (k + 1) a0 a1) := by
  intro a0 a1 k
  have ih0 := slices_Equal_byte_byte.mono_l k
  unfold slices_Equal_byte_byte.f
  repeat' first
      | (with_reducible exact ih0 _ _ _ _)
      | (with_reducible exact LeO.refl _)
      | (with_reducible exact LeO.none _)
      | (with_reducible refine LeO.ite ?_ ?_)
      | (with_reducible refine LeO.bind ?_ (fun _ => ?_))
      | exact ih0 _ _ _ _
      | exact LeO.none _
      | refine LeO.ite ?_ ?_
      | refine LeO.bind ?_ (fun _ => ?_)
set_option maxHeartbeats 8000000 in
set_option maxRecDepth 100000 in
theorem slices_Equal_byte_byte.calls (k : Nat) (A0 : Option Addr) (c0 : Nat) (l0 : List Int) (A1 : Option Addr) (c1 : Nat) (l1 : List Int) (r : Bool) (w : World) (hr0 : Kd.C (Kd.int .u8) w A0 l0.length l0) (hc0 : l0.length ≤ c0) (hr1 : Kd.C (Kd.int .u8) w A1 l1.length l1) (hc1 : l1.length ≤ c1) (h : slices_Equal_byte_byte.f k l0 l1 = some r) :
    Calls Try.prog 44 #[.slice A0 l0.length c0, .slice A1 l1.length c1] w fun e w' => e = .returned (.bool r) ∧ Drawn0 w w' := by
  have HR0 := Aside0.mk hr0
  have HC0 := Aside0.mk hc0
  clear hr0 hc0
  have HR1 := Aside0.mk hr1
  have HC1 := Aside0.mk hc1
  clear hr1 hc1
  have H : (if (l0.length : Int) = (l1.length : Int) then (slices_Equal_byte_byte.l0 k l0 l1 (l0.length : Int) 0) else (some false)) = some r := h
  clear h
  by_cases c3 : (l0.length : Int) = (l1.length : Int)
  · rw [if_pos c3] at H
    have c3b0 : ((l0.length : Int) == (l1.length : Int)) = true := beq_iff_eq.mpr c3
    have c3b1 : ((l0.length : Int) != (l1.length : Int)) = false := bne_eq_false_iff_eq.mpr c3
    have c3b2 : (l0.length == l1.length) = true := by first | simpa using c3 | (simp at c3 ⊢; omega)
    clear c3
    have H' := Aside0.mk H
    clear H
    go_enter Try.func44, Try.ntmps44
    go_wp2
    repeat (go_quiet (fail); try go_wp2)
    go_loopg [13] k (fun kq v13 w' => ∃ (x13_1 : Int), v13 = .int .i64 x13_1 ∧ Aside0 (slices_Equal_byte_byte.l0 kq l0 l1 (l0.length : Int) x13_1 = some r) ∧ Aside0 (kq ≤ k) ∧ Drawn0 w w')
    case atStart => exact ⟨(0), (by first | rfl | (simp; done) | (simp [*]; done)), H', ⟨Nat.le_refl _⟩, by repeat (first | exact Drawn0.refl _ | apply Drawn0.step)⟩
    case round =>
      clear H'
      try clear c1
      try clear p2
      try clear c3
      try clear c3b0
      try clear c3b1
      try clear c3b2
      obtain ⟨x13_1, rfl, HA, HK1, ⟨m1, rfl⟩⟩ := hrel
      cases gk with
      | zero => exact absurd HA.out (by simp [slices_Equal_byte_byte.l0])
      | succ k1 =>
        have H := HA.out
        clear HA
        simp only [slices_Equal_byte_byte.l0] at H
        by_cases c4 : x13_1 < (l0.length : Int)
        · rw [if_pos c4] at H
          have c4b0 : decide (x13_1 < (l0.length : Int)) = true := decide_eq_true c4
          clear c4
          by_cases c5 : 0 ≤ x13_1
          · rw [if_pos c5] at H
            have c5b0 : decide (0 ≤ x13_1) = true := decide_eq_true c5
            clear c5
            by_cases c6 : x13_1 < (l0.length : Int)
            · rw [if_pos c6] at H
              have c6b0 : decide (x13_1 < (l0.length : Int)) = true := decide_eq_true c6
              clear c6
              by_cases c7 : x13_1 < (l1.length : Int)
              · rw [if_pos c7] at H
                have c7b0 : decide (x13_1 < (l1.length : Int)) = true := decide_eq_true c7
                clear c7
                by_cases c8 : (rd l0 x13_1) = (rd l1 x13_1)
                · rw [if_pos c8] at H
                  have c8b0 : ((rd l0 x13_1) == (rd l1 x13_1)) = true := beq_iff_eq.mpr c8
                  have c8b1 : ((rd l0 x13_1) != (rd l1 x13_1)) = false := bne_eq_false_iff_eq.mpr c8
                  clear c8
                  have H' := Aside0.mk H
                  clear H
                  have p264 : 0 ≤ (x13_1 : Int) := of_decide_eq_true (by first | (with_reducible assumption) | assumption)
                  have q264 : x13_1 < (l0.length : Int) := of_decide_eq_true (by first | (with_reducible assumption) | assumption)
                  obtain ⟨ad264, e264, hx264_0⟩ := Kd.at_int HR0.out x13_1 p264 q264
                  cases e264
                  replace p264 := eq_true p264
                  replace q264 := eq_true q264
                  have p265 : 0 ≤ (x13_1 : Int) := of_decide_eq_true (by first | (with_reducible assumption) | assumption)
                  have q265 : x13_1 < (l1.length : Int) := of_decide_eq_true (by first | (with_reducible assumption) | assumption)
                  obtain ⟨ad265, e265, hx265_0⟩ := Kd.at_int HR1.out x13_1 p265 q265
                  cases e265
                  replace p265 := eq_true p265
                  replace q265 := eq_true q265
                  go_wp2
                  repeat (go_quiet (fail); try go_wp2)
                  go_roundg k1
                  case measure => have := HK1.out; omega
                  case rel => exact ⟨(wrap64 (x13_1 + 1)), (by first | rfl | (simp; done) | (simp [*]; done)), H', ⟨by have := HK1.out; omega⟩, by repeat (first | exact Drawn0.refl _ | apply Drawn0.step)⟩
                · rw [if_neg c8] at H
                  have c8b0 : ((rd l0 x13_1) == (rd l1 x13_1)) = false := beq_eq_false_iff_ne.mpr c8
                  have c8b1 : ((rd l0 x13_1) != (rd l1 x13_1)) = true := bne_iff_ne.mpr c8
                  obtain rfl := Option.some.inj H
                  have p264 : 0 ≤ (x13_1 : Int) := of_decide_eq_true (by first | (with_reducible assumption) | assumption)
                  have q264 : x13_1 < (l0.length : Int) := of_decide_eq_true (by first | (with_reducible assumption) | assumption)
                  obtain ⟨ad264, e264, hx264_0⟩ := Kd.at_int HR0.out x13_1 p264 q264
                  cases e264
                  replace p264 := eq_true p264
                  replace q264 := eq_true q264
                  have p265 : 0 ≤ (x13_1 : Int) := of_decide_eq_true (by first | (with_reducible assumption) | assumption)
                  have q265 : x13_1 < (l1.length : Int) := of_decide_eq_true (by first | (with_reducible assumption) | assumption)
                  obtain ⟨ad265, e265, hx265_0⟩ := Kd.at_int HR1.out x13_1 p265 q265
                  cases e265
                  replace p265 := eq_true p265
                  replace q265 := eq_true q265
                  go_wp2
                  repeat (go_quiet (fail); try go_wp2)
                  go_ret
                  exact ⟨by first | rfl | (simp; done) | (simp [*]; done), by repeat (first | exact Drawn0.refl _ | apply Drawn0.step)⟩
              · rw [if_neg c7] at H
                exact absurd H (by simp)
            · rw [if_neg c6] at H
              exact absurd H (by simp)
          · rw [if_neg c5] at H
            exact absurd H (by simp)
        · rw [if_neg c4] at H
          have c4b0 : decide (x13_1 < (l0.length : Int)) = false := decide_eq_false c4
          clear c4
          obtain rfl := Option.some.inj H
          go_wp2
          repeat (go_quiet (fail); try go_wp2)
          go_ret
          exact ⟨by first | rfl | (simp; done) | (simp [*]; done), by repeat (first | exact Drawn0.refl _ | apply Drawn0.step)⟩
  · rw [if_neg c3] at H
    have c3b0 : ((l0.length : Int) == (l1.length : Int)) = false := beq_eq_false_iff_ne.mpr c3
    have c3b1 : ((l0.length : Int) != (l1.length : Int)) = true := bne_iff_ne.mpr c3
    have c3b2 : (l0.length == l1.length) = false := by first | simpa using c3 | (simp at c3 ⊢; omega)
    obtain rfl := Option.some.inj H
    go_enter Try.func44, Try.ntmps44
    go_wp2
    repeat (go_quiet (fail); try go_wp2)
    go_ret
    exact ⟨by first | rfl | (simp; done) | (simp [*]; done), by repeat (first | exact Drawn0.refl _ | apply Drawn0.step)⟩

/-- THE ONE PURE STATEMENT of slices_Equal_byte_byte: yours. -/
def slices_Equal_byte_byte.Pure : Prop := ∀ (l0 : List Int) (l1 : List Int), l0.length ≤ maxLen → l0.length * 1 ≤ 140737488351232 → (∀ x ∈ l0, (Lit.int .u8 x).wf = true) → l1.length ≤ maxLen → l1.length * 1 ≤ 140737488351232 → (∀ x ∈ l1, (Lit.int .u8 x).wf = true) → ∃ k, slices_Equal_byte_byte.f k l0 l1 = some true
theorem slices_Equal_byte_byte.walk (P : slices_Equal_byte_byte.Pure) (a0 : Option Addr) (len0 cap0 : Nat) (z0 : List Int) (a1 : Option Addr) (len1 cap1 : Nat) (z1 : List Int) (w : World) (w0 : (a0 = none ∧ len0 = 0 ∧ cap0 = 0 ∧ z0 = []) ∨ ∃ x, a0 = some x ∧ len0 ≤ cap0 ∧ cap0 ≤ maxLen ∧ z0.length = cap0 ∧ (∀ i, i < z0.length → w.cell? (x.add i) = some (.int .u8 (z0.getD i 0))) ∧ ∀ n ∈ z0, (Lit.int .u8 n).wf = true) (y0 : len0 * 1 ≤ 140737488351232) (w1 : (a1 = none ∧ len1 = 0 ∧ cap1 = 0 ∧ z1 = []) ∨ ∃ x, a1 = some x ∧ len1 ≤ cap1 ∧ cap1 ≤ maxLen ∧ z1.length = cap1 ∧ (∀ i, i < z1.length → w.cell? (x.add i) = some (.int .u8 (z1.getD i 0))) ∧ ∀ n ∈ z1, (Lit.int .u8 n).wf = true) (y1 : len1 * 1 ≤ 140737488351232) :
    Calls Try.prog 44 #[.slice a0 len0 cap0, .slice a1 len1 cap1] w fun e w' => e = .returned (.bool true) ∧ Below w.heap.size w w' := by
  obtain ⟨l0, rfl, hr0, hm0, hw0, hc0⟩ := ReadsInt.ofRowC w0
  obtain ⟨l1, rfl, hr1, hm1, hw1, hc1⟩ := ReadsInt.ofRowC w1
  obtain ⟨k, h⟩ := P l0 l1 hm0 y0 hw0 hm1 y1 hw1
  refine (slices_Equal_byte_byte.calls k _ _ l0 _ _ l1 true w (Kd.C_of_reads (d := (0 : Int)) (h1 := fun _ => rfl) hr0) hc0 (Kd.C_of_reads (d := (0 : Int)) (h1 := fun _ => rfl) hr1) hc1 h).mono ?_
  rintro e w' ⟨rfl, hd⟩
  exact ⟨rfl, hd.below⟩

end Go.Proofs.Ytbhmncenbpdcjaa.P
end
section
/- What the comparisons of facts and the document's finding answer, plain. -/
namespace Go.Proofs.Ytbhmncenbpdcjaa.P
open Go.RowKit Go.Proofs.YtbhmncenbpdcjaaW.PrintWords Go.Proofs.YtbhmncenbpdcjaaW.PrintLast Go.Proofs.YtbhmncenbpdcjaaW.PrintMore
set_option linter.unusedSimpArgs false
theorem rd_at (l : List Int) (i : Nat) (h : i < l.length) : rd l (i : Int) = l[i] := by
  unfold rd; simp [List.getD, h]
theorem drop_eq_iff {α : Type} {l0 l1 : List α} {i : Nat} (h0 : i < l0.length) (h1 : i < l1.length) : (l0.drop i = l1.drop i) ↔ l0[i] = l1[i] ∧ l0.drop (i + 1) = l1.drop (i + 1) := by
  rw [List.drop_eq_getElem_cons h0, List.drop_eq_getElem_cons h1, List.cons.injEq]
theorem same_l0 (l0 l1 : List Int) (hl : l0.length = l1.length) (hm : l0.length ≤ 9223372036854775807) : ∀ (d i k : Nat), i + d = l0.length → d < k → carrackref00_Same.l0 k l0 l1 (i : Int) = some (decide (l0.drop i = l1.drop i)) := by
  intro d
  induction d with
  | zero =>
    intro i k hi hk
    obtain ⟨k, rfl⟩ : ∃ m, k = m + 1 := ⟨k - 1, by omega⟩
    unfold carrackref00_Same.l0
    rw [if_neg (by omega), List.drop_of_length_le (by omega), List.drop_of_length_le (by omega)]
    simp
  | succ d ih =>
    intro i k hi hk
    obtain ⟨k, rfl⟩ : ∃ m, k = m + 1 := ⟨k - 1, by omega⟩
    unfold carrackref00_Same.l0
    rw [if_pos (by omega), if_pos (by omega), if_pos (by omega), rd_at l0 i (by omega), rd_at l1 i (by omega)]
    by_cases he : l0[i] = l1[i]
    · rw [if_pos he, wrapS (by omega), ih (i + 1) k (by omega) (by omega)]
      simp [drop_eq_iff (i := i) (l0 := l0) (l1 := l1) (by omega) (by omega), he]
    · rw [if_neg he]
      simp [drop_eq_iff (i := i) (l0 := l0) (l1 := l1) (by omega) (by omega), he]
theorem same_f (l0 l1 : List Int) (hm : l0.length ≤ 9223372036854775807) (k : Nat) (hk : l0.length < k) : carrackref00_Same.f k l0 l1 = some (decide (l0 = l1)) := by
  unfold carrackref00_Same.f
  by_cases hl : l0.length = l1.length
  · rw [if_pos (by omega), show (0 : Int) = ((0 : Nat) : Int) from rfl, same_l0 l0 l1 hl hm l0.length 0 k (by omega) hk]
    simp
  · rw [if_neg (by omega)]
    have : l0 ≠ l1 := fun e => hl (by rw [e])
    simp [this]
theorem equal_l0 (l0 l1 : List Int) (hl : l0.length = l1.length) (hm : l0.length ≤ 9223372036854775807) : ∀ (d i k : Nat), i + d = l0.length → d < k → slices_Equal_byte_byte.l0 k l0 l1 (l0.length : Int) (i : Int) = some (decide (l0.drop i = l1.drop i)) := by
  intro d
  induction d with
  | zero =>
    intro i k hi hk
    obtain ⟨k, rfl⟩ : ∃ m, k = m + 1 := ⟨k - 1, by omega⟩
    unfold slices_Equal_byte_byte.l0
    rw [if_neg (by omega), List.drop_of_length_le (by omega), List.drop_of_length_le (by omega)]
    simp
  | succ d ih =>
    intro i k hi hk
    obtain ⟨k, rfl⟩ : ∃ m, k = m + 1 := ⟨k - 1, by omega⟩
    unfold slices_Equal_byte_byte.l0
    rw [if_pos (by omega), if_pos (by omega), if_pos (by omega), if_pos (by omega), rd_at l0 i (by omega), rd_at l1 i (by omega)]
    by_cases he : l0[i] = l1[i]
    · rw [if_pos he, wrapS (by omega), ih (i + 1) k (by omega) (by omega)]
      simp [drop_eq_iff (i := i) (l0 := l0) (l1 := l1) (by omega) (by omega), he]
    · rw [if_neg he]
      simp [drop_eq_iff (i := i) (l0 := l0) (l1 := l1) (by omega) (by omega), he]
theorem equal_f (l0 l1 : List Int) (hm : l0.length ≤ 9223372036854775807) (k : Nat) (hk : l0.length < k) : slices_Equal_byte_byte.f k l0 l1 = some (decide (l0 = l1)) := by
  unfold slices_Equal_byte_byte.f
  by_cases hl : l0.length = l1.length
  · rw [if_pos (by omega), show (0 : Int) = ((0 : Nat) : Int) from rfl, equal_l0 l0 l1 hl hm l0.length 0 k (by omega) hk]
    simp
  · rw [if_neg (by omega)]
    have : l0 ≠ l1 := fun e => hl (by rw [e])
    simp [this]
/-- Are two facts one? -/
def factQ (x y : F) : Bool := keyQ x.f0 y.f0 && decide (x.f1 = y.f1)
theorem factQ_iff (x y : F) : factQ x y = true ↔ x = y := by
  obtain ⟨x0, x1⟩ := x
  obtain ⟨y0, y1⟩ := y
  unfold factQ
  simp [keyQ_iff]
def factsQ : List F → List F → Bool
  | [], [] => true
  | x :: l, y :: m => factQ x y && factsQ l m
  | _, _ => false
theorem factsQ_iff : ∀ (l m : List F), factsQ l m = true ↔ l = m
  | [], [] => by simp [factsQ]
  | [], _ :: _ => by simp [factsQ]
  | _ :: _, [] => by simp [factsQ]
  | x :: l, y :: m => by simp [factsQ, factQ_iff, factsQ_iff l m]
theorem factsQ_len {l m : List F} (h : l.length ≠ m.length) : factsQ l m = false := by
  cases hq : factsQ l m with
  | false => rfl
  | true => rw [(factsQ_iff l m).1 hq] at h; exact absurd rfl h
theorem facts_l0 (l0 l1 : List F) (hl : l0.length = l1.length) (hm : l0.length ≤ 9223372036854775807) (b : Nat) (hs : ∀ x ∈ l0, x.f1.length < b) (hb : b ≤ 9223372036854775807) : ∀ (d i k : Nat), i + d = l0.length → d + b < k → carrackref00_Facts.l0 k l0 l1 (i : Int) = some (factsQ (l0.drop i) (l1.drop i)) := by
  intro d
  induction d with
  | zero =>
    intro i k hi hk
    obtain ⟨k, rfl⟩ : ∃ m, k = m + 1 := ⟨k - 1, by omega⟩
    unfold carrackref00_Facts.l0
    rw [if_neg (by omega), List.drop_of_length_le (by omega), List.drop_of_length_le (by omega)]
    rfl
  | succ d ih =>
    intro i k hi hk
    obtain ⟨k, rfl⟩ : ∃ m, k = m + 1 := ⟨k - 1, by omega⟩
    have h0 : i < l0.length := by omega
    have h1 : i < l1.length := by omega
    unfold carrackref00_Facts.l0
    rw [if_pos (by omega), if_pos (by omega), if_pos (by omega), rd_nat l0 i h0, rd_nat l1 i h1]
    rw [List.drop_eq_getElem_cons h0, List.drop_eq_getElem_cons h1]
    simp only [factsQ]
    have hx := hs _ (List.getElem_mem h0)
    have hkq : (!(l0[i].f0.f0 == l1[i].f0.f0) || (!(l0[i].f0.f1 == l1[i].f0.f1) || (!(l0[i].f0.f2.toList == l1[i].f0.f2.toList) || !(l0[i].f0.f3 == l1[i].f0.f3)))) = !(keyQ l0[i].f0 l1[i].f0) := by
      unfold keyQ
      simp only [Bool.not_and]
    rw [hkq]
    unfold factQ
    cases hq : keyQ l0[i].f0 l1[i].f0 with
    | false => rfl
    | true =>
      rw [if_neg (by simp), same_f _ _ (by omega) k (by omega), Option.bind_some, wrapS (by omega), ih (i + 1) k (by omega) (by omega)]
      by_cases he : l0[i].f1 = l1[i].f1
      · simp [he]
      · simp [he]
theorem facts_f (l0 l1 : List F) (hm : l0.length ≤ 9223372036854775807) (b : Nat) (hs : ∀ x ∈ l0, x.f1.length < b) (hb : b ≤ 9223372036854775807) (k : Nat) (hk : l0.length + b < k) : carrackref00_Facts.f k l0 l1 = some (factsQ l0 l1) := by
  unfold carrackref00_Facts.f
  by_cases hl : l0.length = l1.length
  · rw [if_pos (by omega), show (0 : Int) = ((0 : Nat) : Int) from rfl, facts_l0 l0 l1 hl hm b hs hb l0.length 0 k (by omega) hk]
    simp
  · rw [if_neg (by omega), factsQ_len hl]
/-- The first fact of a key, as the document looks for it. -/
def refFind (k : K) : List F → List Int × Bool
  | [] => ([], false)
  | x :: l => if keyQ x.f0 k then (x.f1, true) else refFind k l
theorem refFind_l0 (l : List F) (q : K) (hm : l.length ≤ 9223372036854775807) (hs : ∀ x ∈ l, x.f1.length < 140737488355328) : ∀ (d i k : Nat), i + d = l.length → d < k → carrackref06_Find.l0 k l (i : Int) q.f0 q.f1 q.f2 q.f3 = some (refFind q (l.drop i)) := by
  intro d
  induction d with
  | zero =>
    intro i k hi hk
    obtain ⟨k, rfl⟩ : ∃ m, k = m + 1 := ⟨k - 1, by omega⟩
    unfold carrackref06_Find.l0
    rw [if_neg (by omega), List.drop_of_length_le (by omega)]
    rfl
  | succ d ih =>
    intro i k hi hk
    obtain ⟨k, rfl⟩ : ∃ m, k = m + 1 := ⟨k - 1, by omega⟩
    have h0 : i < l.length := by omega
    unfold carrackref06_Find.l0
    rw [if_pos (by omega), if_pos (by omega), rd_nat l i h0, List.drop_eq_getElem_cons h0]
    simp only [refFind]
    have hkq : (l[i].f0.f0 == q.f0 && (l[i].f0.f1 == q.f1 && (l[i].f0.f2.toList == q.f2.toList && l[i].f0.f3 == q.f3))) = keyQ l[i].f0 q := rfl
    rw [hkq]
    cases hq : keyQ l[i].f0 q with
    | true =>
      rw [if_pos rfl, if_pos (by have := hs _ (List.getElem_mem h0); simp; omega)]
      simp
    | false =>
      rw [if_neg (by simp), wrapS (by omega), ih (i + 1) k (by omega) (by omega)]
      simp
theorem refFind_f (l : List F) (q : K) (hm : l.length ≤ 9223372036854775807) (hn : ∀ x ∈ l, x.f0.f2.size ≤ maxLen) (hs : ∀ x ∈ l, x.f1.length < 140737488355328) (k : Nat) (hk : l.length < k) : carrackref06_Find.f k l q.f0 q.f1 q.f2 q.f3 = some (if ordB l then refFind q l else ([], false)) := by
  unfold carrackref06_Find.f
  rw [refOrdered_f l hm hn k hk, Option.bind_some]
  cases ho : ordB l with
  | false => rfl
  | true =>
    rw [if_pos rfl, show (0 : Int) = ((0 : Nat) : Int) from rfl, refFind_l0 l q hm hs l.length 0 k (by omega) hk]
    rfl
end Go.Proofs.Ytbhmncenbpdcjaa.P
end
section
/- fact.Same: its contract. -/
namespace Go.Proofs.Ytbhmncenbpdcjaa.P
open Go Go.Shelf Go.RowKit Go.Proofs.YtbhmncenbpdcjaaW.PrintWords Go.Proofs.YtbhmncenbpdcjaaW.PrintLast Go.Proofs.YtbhmncenbpdcjaaW.PrintMore
set_option linter.unusedVariables false
set_option linter.unusedSimpArgs false
attribute [local go_sem] Oper.semAt_some
attribute [local go_sem high] eqA30
def encV (x : F) (A : Option Addr) (c : Nat) : Value := .agg #[.int .i64 x.f0.f0, .int .u8 x.f0.f1, .string x.f0.f2, .int .i64 x.f0.f3, .slice A x.f1.length c]
theorem equal_any (A0 : Option Addr) (c0 : Nat) (l0 : List Int) (A1 : Option Addr) (c1 : Nat) (l1 : List Int) (w : World) (hr0 : Kd.C (Kd.int .u8) w A0 l0.length l0) (hc0 : l0.length ≤ c0) (hr1 : Kd.C (Kd.int .u8) w A1 l1.length l1) (hc1 : l1.length ≤ c1) :
    Calls Try.prog 44 #[.slice A0 l0.length c0, .slice A1 l1.length c1] w fun e w' => e = .returned (.bool (decide (l0 = l1))) ∧ Below w.heap.size w w' :=
  (slices_Equal_byte_byte.calls (l0.length + 1) A0 c0 l0 A1 c1 l1 _ w hr0 hc0 hr1 hc1 (equal_f l0 l1 hr0.2.1 _ (Nat.lt_succ_self _))).mono fun e w' ⟨he, hd⟩ => ⟨he, by obtain ⟨n, rfl⟩ := hd; exact pw_below_drewN (Below.refl _ _) n⟩
set_option maxRecDepth 100000 in
set_option maxHeartbeats 4000000 in
theorem same1_any (x y : F) (A0 : Option Addr) (c0 : Nat) (A1 : Option Addr) (c1 : Nat) (w : World) (hr0 : Kd.C (Kd.int .u8) w A0 x.f1.length x.f1) (hc0 : x.f1.length ≤ c0) (hr1 : Kd.C (Kd.int .u8) w A1 y.f1.length y.f1) (hc1 : y.f1.length ≤ c1) :
    Calls Try.prog 43 #[encV x A0 c0, encV y A1 c1] w fun e w' => e = .returned (.bool (factQ x y)) ∧ Below w.heap.size w w' := by
  have HE := Lib.hid (fun W (hb : Below w.heap.size w W) => equal_any A0 c0 x.f1 A1 c1 y.f1 W (Kd.C_below hr0 hb) hc0 (Kd.C_below hr1 hb) hc1)
  have HQ : Hid (keyQ x.f0 y.f0 = (x.f0.f0 == y.f0.f0 && (x.f0.f1 == y.f0.f1 && (x.f0.f2.toList == y.f0.f2.toList && (x.f0.f3 == y.f0.f3))))) := Lib.hid rfl
  have hb0 : Below w.heap.size w ((w.alloc (.cells #[.int .i64 x.f0.f0, .int .u8 x.f0.f1, .string x.f0.f2, .int .i64 x.f0.f3, .slice A0 x.f1.length c0] 47)).alloc (.cells #[.int .i64 y.f0.f0, .int .u8 y.f0.f1, .string y.f0.f2, .int .i64 y.f0.f3, .slice A1 y.f1.length c1] 47)) := ((Below.refl _ _).alloc (Nat.le_refl _) _).alloc (by simp) _
  clear hr0 hr1
  unfold encV
  unfold factQ
  cases hq : keyQ x.f0 y.f0 with
  | true =>
    have hq' : (x.f0.f0 == y.f0.f0 && (x.f0.f1 == y.f0.f1 && (x.f0.f2.toList == y.f0.f2.toList && (x.f0.f3 == y.f0.f3)))) = true := by rw [← HQ.out]; exact hq
    clear hq
    go_enter Try.func43, Try.ntmps43
    go_wp2_with fail
    refine (HE.out _ hb0).mono ?_
    rintro e w1 ⟨rfl, hb1⟩
    go_wp2
    go_ret
    exact ⟨by simp, hb0.trans (hb1.mono hb0.size)⟩
  | false =>
    have hq' : (x.f0.f0 == y.f0.f0 && (x.f0.f1 == y.f0.f1 && (x.f0.f2.toList == y.f0.f2.toList && (x.f0.f3 == y.f0.f3)))) = false := by rw [← HQ.out]; exact hq
    clear hq
    go_enter Try.func43, Try.ntmps43
    go_wp2
    go_ret
    exact ⟨rfl, hb0⟩
theorem factsQ_at {l m : List F} {i : Nat} (h0 : i < l.length) (h1 : i < m.length) : factsQ (l.drop i) (m.drop i) = (factQ l[i] m[i] && factsQ (l.drop (i + 1)) (m.drop (i + 1))) := by
  rw [List.drop_eq_getElem_cons h0, List.drop_eq_getElem_cons h1]; rfl
set_option maxRecDepth 100000 in
set_option maxHeartbeats 4000000 in
theorem equalFunc_any (A0 : Option Addr) (c0 : Nat) (l0 : List F) (A1 : Option Addr) (c1 : Nat) (l1 : List F) (w : World) (hr0 : Kd.C k47 w A0 l0.length l0) (hc0 : l0.length ≤ c0) (hr1 : Kd.C k47 w A1 l1.length l1) (hc1 : l1.length ≤ c1) :
    Calls Try.prog 42 #[.slice A0 l0.length c0, .slice A1 l1.length c1, .func (.func 43) #[] #[]] w fun e w' => e = .returned (.bool (factsQ l0 l1)) ∧ Below w.heap.size w w' := by
  have hm0 : l0.length ≤ 9223372036854775807 := hr0.2.1
  by_cases hl : l0.length = l1.length
  · have HR := Lib.hid (And.intro hr0 hr1)
    have HE := Lib.hid (fun (x y : F) A0 c0 A1 c1 W h1 h2 h3 h4 => same1_any x y A0 c0 A1 c1 W h1 h2 h3 h4)
    have hle : ((l0.length : Int) == (l1.length : Int)) = true := by rw [hl]; simp
    have hln : ((l0.length : Int) != (l1.length : Int)) = false := by rw [hl]; simp
    have HL := Lib.hid hl
    clear hr0 hr1 hl
    go_enter Try.func42, Try.ntmps42
    go_wp2
    go_loopw [17] (fun s wr => ∃ i : Nat, i ≤ l0.length ∧ s = .int .i64 i ∧ Hid (factsQ l0 l1 = factsQ (l0.drop i) (l1.drop i) ∧ Below w.heap.size w wr)) (fun s _ => l0.length - (intOf s).toNat)
    case atStart => exact ⟨0, Nat.zero_le _, rfl, Lib.hid ⟨rfl, Below.refl _ _⟩⟩
    case round =>
      obtain ⟨i, hi, rfl, HV⟩ := hrel
      by_cases hlt : i < l0.length
      · have hl' := HL.out
        obtain ⟨ad, Ax, cx, hA, h0, h1, h2, h3, h4, h5, h6⟩ := at_T47 (Kd.C_below HR.out.1 HV.out.2) (i : Nat) (by omega) (by omega)
        obtain ⟨ad', Ay, cy, hA', g0, g1, g2, g3, g4, g5, g6⟩ := at_T47 (Kd.C_below HR.out.2 HV.out.2) (i : Nat) (by omega) (by omega)
        subst hA hA'
        simp only [Int.toNat_natCast] at h0 h1 h2 h3 h4 g0 g1 g2 g3 g4
        have HF : Hid (factsQ (l0.drop i) (l1.drop i) = (factQ (rd_T47 l0 (i : Nat)) (rd_T47 l1 (i : Nat)) && factsQ (l0.drop (i + 1)) (l1.drop (i + 1)))) := by
          rw [rd_nat l0 i hlt, rd_nat l1 i (by omega)]; exact Lib.hid (factsQ_at hlt (by omega))
        generalize rd_T47 l0 (i : Nat) = x at *
        generalize rd_T47 l1 (i : Nat) = y at *
        have ci0 : (0 : Int) ≤ (i : Int) := by omega
        have ci1 : (i : Int) < (l0.length : Int) := by omega
        have ci2 : (i : Int) < (l1.length : Int) := by omega
        clear hl'
        have hbq : ∀ o, Below wr.heap.size wr (wr.alloc o) := fun o => (Below.refl _ _).alloc (Nat.le_refl _) o
        have q0 : ∀ o, (wr.alloc o).cell? _ = _ := fun o => cell_below (hbq o) g0
        have q1 : ∀ o, (wr.alloc o).cell? _ = _ := fun o => cell_below (hbq o) g1
        have q2 : ∀ o, (wr.alloc o).cell? _ = _ := fun o => cell_below (hbq o) g2
        have q3 : ∀ o, (wr.alloc o).cell? _ = _ := fun o => cell_below (hbq o) g3
        have q4 : ∀ o, (wr.alloc o).cell? _ = _ := fun o => cell_below (hbq o) g4
        clear hbq
        go_wp2_with fail
        have hb1 : Below wr.heap.size wr ((wr.alloc (.cells #[.int .i64 x.f0.f0, .int .u8 x.f0.f1, .string x.f0.f2, .int .i64 x.f0.f3, .slice Ax x.f1.length cx] 47)).alloc (.cells #[.int .i64 y.f0.f0, .int .u8 y.f0.f1, .string y.f0.f2, .int .i64 y.f0.f3, .slice Ay y.f1.length cy] 47)) := ((Below.refl _ _).alloc (Nat.le_refl _) _).alloc (by simp) _
        refine (HE.out x y Ax cx Ay cy _ (Kd.C_below h6 hb1) h5 (Kd.C_below g6 hb1) g5).mono ?_
        rintro e w1 ⟨rfl, hb2⟩
        have HB := Lib.hid (HV.out.2.trans ((hb1.trans (hb2.mono hb1.size)).mono HV.out.2.size))
        clear hb1 hb2 h0 h1 h2 h3 h4 h6 g0 g1 g2 g3 g4 g6 q0 q1 q2 q3 q4
        cases hq : factQ x y with
        | true =>
          rw [hq] at HF
          clear hq
          go_wp2
          go_roundw
          case rel => exact ⟨i + 1, hlt, by go_num, Lib.hid ⟨HV.out.1.trans (HF.out.trans (by simp)), HB.out⟩⟩
          case measure => simp [intOf]; omega
        | false =>
          rw [hq] at HF
          clear hq
          go_wp2
          go_ret
          exact ⟨by rw [HV.out.1, HF.out]; rfl, HB.out⟩
      · obtain rfl : i = l0.length := by omega
        have HT : Hid (factsQ l0 l1 = true) := Lib.hid (HV.out.1.trans (by rw [List.drop_length, HL.out, List.drop_length]; rfl))
        go_wp2
        go_ret
        exact ⟨by rw [HT.out]; rfl, HV.out.2⟩
  · have hle : ((l0.length : Int) == (l1.length : Int)) = false := by rw [beq_eq_false_iff_ne]; omega
    have hln : ((l0.length : Int) != (l1.length : Int)) = true := by rw [bne_iff_ne]; omega
    have hq := factsQ_len hl
    clear hr0 hr1
    go_enter Try.func42, Try.ntmps42
    go_wp2
    go_ret
    exact ⟨by rw [hq]; rfl, Below.refl _ _⟩
theorem factSame_any (A0 : Option Addr) (c0 : Nat) (l0 : List F) (A1 : Option Addr) (c1 : Nat) (l1 : List F) (w : World) (hr0 : Kd.C k47 w A0 l0.length l0) (hc0 : l0.length ≤ c0) (hr1 : Kd.C k47 w A1 l1.length l1) (hc1 : l1.length ≤ c1) :
    Calls Try.prog 24 #[.slice A0 l0.length c0, .slice A1 l1.length c1] w fun e w' => e = .returned (.bool (factsQ l0 l1)) ∧ Below w.heap.size w w' := by
  have HE := Lib.hid (equalFunc_any A0 c0 l0 A1 c1 l1 w hr0 hc0 hr1 hc1)
  clear hr0 hr1
  go_enter Try.func24, Try.ntmps24
  go_wp2_with fail
  refine HE.out.mono ?_
  rintro e w1 ⟨rfl, hb⟩
  go_wp2
  go_ret
  exact ⟨rfl, hb⟩
end Go.Proofs.Ytbhmncenbpdcjaa.P
end
section
/- carrackref06.one: a round of its loop. -/
namespace Go.Proofs.Ytbhmncenbpdcjaa.P
open Go Go.Shelf Go.RowKit Go.Proofs.YtbhmncenbpdcjaaW.PrintWords Go.Proofs.YtbhmncenbpdcjaaW.PrintLast Go.Proofs.YtbhmncenbpdcjaaW.PrintMore
set_option linter.unusedVariables false
set_option linter.unusedSimpArgs false
attribute [local go_sem] Oper.semAt_some
attribute [local go_sem high] eqA30
attribute [local go_sem ↓] Go.wp_at_zero Go.wp_at_succ
noncomputable def oneBody : Code := ((Try.f41.body.bind firstLoop).getD .skip)
/-- What the document's change makes of facts, place by place. -/
def oneL (c : Ch) : Bool → List F → List F
  | done, [] => if done then [] else [⟨c.f0, c.f1⟩]
  | done, x :: l => if keyQ x.f0 c.f0 then (if done then oneL c true l else ⟨c.f0, c.f1⟩ :: oneL c true l)
      else if !done && bef c.f0 x.f0 then ⟨c.f0, c.f1⟩ :: x :: oneL c true l else x :: oneL c done l
/-- Cells that read as a fact in every world that keeps what was there, and the change's own value. -/
def GK (w0 : World) (ov : Value) (c : Ch) (x : F) (cs : List Value) : Prop := ∀ W', Below w0.heap.size w0 W' → Kd.R (Kd.int .u8) 5 W' w0.heap.size (fun _ => True) ov c.f1 → k47.K W' x cs
def OneI (w0 : World) (bx : Nat) (c : Ch) (A4 : Option Addr) (c4 : Nat) (ov : Value) (W : World) : Prop :=
  W.heap[bx]? = some (.cells (cells6 c A4 c4).toArray 53 (0, 0)) ∧ Kd.R (Kd.int .u8) 5 W w0.heap.size (fun _ => True) ov c.f1 ∧ Below w0.heap.size w0 W
theorem OneI.step {w0 : World} {bx : Nat} {c : Ch} {A4 : Option Addr} {c4 : Nat} {ov : Value} {W W' : World} (h : OneI w0 bx c A4 c4 ov W) (hb : Below W.heap.size W W') : OneI w0 bx c A4 c4 ov W' :=
  ⟨(hb.block bx (Array.getElem?_eq_some_iff.1 h.1).1).trans h.1, Kd.R_below h.2.1 hb, h.2.2.trans (hb.mono h.2.2.size)⟩
theorem OneI.grow {w0 : World} {bx : Nat} {c : Ch} {A4 : Option Addr} {c4 : Nat} {ov : Value} {W W' : World} {R : F → List Value → Prop} {v : Value} {ps : List F} (h : OneI w0 bx c A4 c4 ov W) (ho : OwnRow R 47 5 W w0.heap.size v ps) (hg : W.grownBy W' v.ownBlock) (hb : Below w0.heap.size w0 W') : OneI w0 bx c A4 c4 ov W' := by
  obtain ⟨h1, h2, h3⟩ := h
  refine ⟨(hg.block bx (Array.getElem?_eq_some_iff.1 h1).1 (ho.ne_block h1 (by decide))).trans h1, ?_, hb⟩
  refine Kd.R_mono (Kd.R_grown (Kd.R_bound h2) hg fun k hk => ?_) fun _ _ => trivial
  obtain ⟨_, _, _, q, hq, cells, hc⟩ := hk
  have : q = 5 := by simpa [Kd.int, Kd.scalar] using hq
  subst this
  exact ho.ne_block hc (by decide)
theorem GK.own {w0 : World} {c : Ch} {A : Option Addr} {n : Nat} {cap : Nat} : GK w0 (.slice A n cap) c ⟨c.f0, c.f1⟩ [.int .i64 c.f0.f0, .int .u8 c.f0.f1, .string c.f0.f2, .int .i64 c.f0.f3, .slice A n cap] := fun W' _ hr => by
  obtain ⟨h1, h2, h3⟩ := Kd.R_reads' hr
  subst h1
  exact k47_mk W' ⟨c.f0, c.f1⟩ h2 h3
theorem GK.old {w0 : World} {ov : Value} {c : Ch} {x : F} {A : Option Addr} {cap : Nat} (h : x.f1.length ≤ cap) (hC : Kd.C (Kd.int .u8) w0 A x.f1.length x.f1) : GK w0 ov c x [.int .i64 x.f0.f0, .int .u8 x.f0.f1, .string x.f0.f2, .int .i64 x.f0.f3, .slice A x.f1.length cap] := fun W' hb _ =>
  k47_mk W' x h (Kd.C_below hC hb)
theorem refBef_any (a b : K) (ha : a.f2.size ≤ maxLen) (hb : b.f2.size ≤ maxLen) (w : World) : Calls Try.prog 58 #[.agg #[.int .i64 a.f0, .int .u8 a.f1, .string a.f2, .int .i64 a.f3], .agg #[.int .i64 b.f0, .int .u8 b.f1, .string b.f2, .int .i64 b.f3]] w fun e w' => e = .returned (.bool (bef a b)) ∧ Below w.heap.size w w' :=
  carrackref06_Before.calls a.f0 a.f1 a.f2 a.f3 b.f0 b.f1 b.f2 b.f3 _ w (by unfold carrackref06_Before.f; rw [if_pos ha, if_pos hb]; rfl)
set_option maxRecDepth 100000 in
set_option maxHeartbeats 8000000 in
theorem one_round (u1 u2 u4 u9 u10 u11 u12 u13 u14 u15 u16 u17 u18 u19 u20 u21 u22 u23 u24 u25 u26 u27 u28 u29 u30 u31 u32 u33 u34 u35 u36 u37 u38 u39 u40 u41 u42 u43 u44 u45 u46 u47 u48 u49 u50 u51 u52 u53 u54 u55 u56 u57 u58 u59 u60 u61 u62 u63 u64 u65 u66 u67 u68 u69 u70 u71 u72 u73 : Value) (bx i : Nat) (A : Option Addr) (cap : Nat) (l : List F) (w0 : World) (c : Ch) (A4 : Option Addr) (c4 : Nat) (Ao : Option Addr) (co : Nat) (vout : Value) (pre : List F) (done : Bool) (W : World) (Q : Exit → Act → World → Prop)
    (hi : i < l.length) (hn : ∀ x ∈ l, x.f0.f2.size ≤ maxLen) (hcn : c.f0.f2.size ≤ maxLen) (hr : Kd.C k47 w0 A l.length l) (hc : l.length ≤ cap) (hI : OneI w0 bx c A4 c4 (.slice Ao c.f1.length co) W) (hO : OwnRow (GK w0 (.slice Ao c.f1.length co) c) 47 5 W w0.heap.size vout pre) (hbig : (pre.length + 2) * 64 ≤ 140737488355328)
    (hQ : ∀ (v15 v16 v17 v18 v19 v20 v21 v22 v23 v24 v25 v26 v27 v28 v29 v30 v31 v32 v33 v34 v35 v36 v37 v38 v39 v40 v41 v42 v43 v44 v45 v46 v47 v48 v49 v50 v51 v52 v53 v54 v55 v56 v57 v58 v59 v60 v61 v62 v63 v64 v65 v66 v67 v68 v69 v70 v71 v72 v73 v' : Value) (pre' : List F) (done' : Bool) (W' : World), OneI w0 bx c A4 c4 (.slice Ao c.f1.length co) W' → OwnRow (GK w0 (.slice Ao c.f1.length co) c) 47 5 W' w0.heap.size v' pre' → pre ++ oneL c done (l.drop i) = pre' ++ oneL c done' (l.drop (i + 1)) → pre'.length ≤ pre.length + 2 →
      Q .normal { tmps := #[.slice A l.length cap, u1, u2, .pointer (some ⟨bx, 0, none⟩), u4, v', .bool done', .slice Ao c.f1.length co, .int .i64 ((i : Int) + 1), u9, u10, u11, u12, u13, u14, v15, v16, v17, v18, v19, v20, v21, v22, v23, v24, v25, v26, v27, v28, v29, v30, v31, v32, v33, v34, v35, v36, v37, v38, v39, v40, v41, v42, v43, v44, v45, v46, v47, v48, v49, v50, v51, v52, v53, v54, v55, v56, v57, v58, v59, v60, v61, v62, v63, v64, v65, v66, v67, v68, v69, v70, v71, v72, v73], defers := [] } W') :
    Code.wp Try.prog oneBody Q { tmps := #[.slice A l.length cap, u1, u2, .pointer (some ⟨bx, 0, none⟩), u4, vout, .bool done, .slice Ao c.f1.length co, .int .i64 i, u9, u10, u11, u12, u13, u14, u15, u16, u17, u18, u19, u20, u21, u22, u23, u24, u25, u26, u27, u28, u29, u30, u31, u32, u33, u34, u35, u36, u37, u38, u39, u40, u41, u42, u43, u44, u45, u46, u47, u48, u49, u50, u51, u52, u53, u54, u55, u56, u57, u58, u59, u60, u61, u62, u63, u64, u65, u66, u67, u68, u69, u70, u71, u72, u73], defers := [] } W := by
  conv => arg 2; whnf
  obtain ⟨ad, Ax, cx, hA, h0, h1, h2, h3, h4, h5, h6⟩ := at_T47 hr (i : Nat) (by omega) (by omega)
  subst hA
  simp only [Int.toNat_natCast] at h0 h1 h2 h3 h4
  have hlm : l.length ≤ 9223372036854775807 := hr.2.1
  have hone : oneL c done (l.drop i) = (if keyQ (rd_T47 l (i : Nat)).f0 c.f0 then (if done then oneL c true (l.drop (i + 1)) else ⟨c.f0, c.f1⟩ :: oneL c true (l.drop (i + 1)))
      else if !done && bef c.f0 (rd_T47 l (i : Nat)).f0 then ⟨c.f0, c.f1⟩ :: rd_T47 l (i : Nat) :: oneL c true (l.drop (i + 1)) else rd_T47 l (i : Nat) :: oneL c done (l.drop (i + 1))) := by
    rw [rd_nat l i hi, List.drop_eq_getElem_cons hi]; rfl
  have hxn : (rd_T47 l (i : Nat)).f0.f2.size ≤ maxLen := by rw [rd_nat l i hi]; exact hn _ (List.getElem_mem hi)
  generalize rd_T47 l (i : Nat) = x at *
  have hgx : GK w0 (.slice Ao c.f1.length co) c x _ := GK.old h5 h6
  have hbW := hI.2.2
  have HX0 := Lib.hid (fun W' (hb : Below w0.heap.size w0 W') => And.intro (cell_below hb h0) (And.intro (cell_below hb h1) (And.intro (cell_below hb h2) (And.intro (cell_below hb h3) (cell_below hb h4)))))
  have h0 := cell_below hbW h0
  have h1 := cell_below hbW h1
  have h2 := cell_below hbW h2
  have h3 := cell_below hbW h3
  have h4 := cell_below hbW h4
  have hx := hI.1
  have k0 : W.cell? ⟨bx, 0, none⟩ = some (.int .i64 c.f0.f0) := by simp [World.cell?, hx, cells6]
  have k1 : W.cell? ⟨bx, 1, none⟩ = some (.int .u8 c.f0.f1) := by simp [World.cell?, hx, cells6]
  have k2 : W.cell? ⟨bx, 2, none⟩ = some (.string c.f0.f2) := by simp [World.cell?, hx, cells6]
  have k3 : W.cell? ⟨bx, 3, none⟩ = some (.int .i64 c.f0.f3) := by simp [World.cell?, hx, cells6]
  have ci0 : (0 : Int) ≤ (i : Int) := by omega
  have ci1 : (i : Int) < (l.length : Int) := by omega
  have hqq : keyQ x.f0 c.f0 = (x.f0.f0 == c.f0.f0 && (x.f0.f1 == c.f0.f1 && (x.f0.f2.toList == c.f0.f2.toList && (x.f0.f3 == c.f0.f3)))) := rfl
  have HQ := Lib.hid hQ
  have HI := Lib.hid (And.intro hI (And.intro hO (And.intro hgx hbig)))
  have HB := Lib.hid (fun W => refBef_any c.f0 x.f0 hcn hxn W)
  clear hQ hI hO hgx hbig hx hbW h6 hr hn hcn hxn
  cases hk : keyQ x.f0 c.f0 with
  | true =>
    rw [hk] at hone hqq
    have HN := Lib.hid hone
    replace hqq := hqq.symm
    clear hone hk
    cases done with
    | true =>
      go_wp2_with fail
      go_quiet (fail)
      have hd : Below W.heap.size W (W.drewN nq) := pw_below_drewN (Below.refl _ _) nq
      have HI1 := Lib.hid (OneI.step HI.out.1 hd)
      have HO1 := Lib.hid (HI.out.2.1.below hd)
      have hbig := HI.out.2.2.2
      clear hd h0 h1 h2 h3 h4 k0 k1 k2 k3
      generalize W.drewN nq = W1 at *
      obtain ⟨h0, h1, h2, h3, h4⟩ := HX0.out W1 HI1.out.2.2
      have k0 : W1.cell? ⟨bx, 0, none⟩ = some (.int .i64 c.f0.f0) := by have hx := HI1.out.1; simp [World.cell?, hx, cells6]
      have k1 : W1.cell? ⟨bx, 1, none⟩ = some (.int .u8 c.f0.f1) := by have hx := HI1.out.1; simp [World.cell?, hx, cells6]
      have k2 : W1.cell? ⟨bx, 2, none⟩ = some (.string c.f0.f2) := by have hx := HI1.out.1; simp [World.cell?, hx, cells6]
      have k3 : W1.cell? ⟨bx, 3, none⟩ = some (.int .i64 c.f0.f3) := by have hx := HI1.out.1; simp [World.cell?, hx, cells6]
      go_wp2
      refine HQ.out _ _ _ _ _ _ _ _ _ _ _ _ _ _ _ _ _ _ _ _ _ _ _ _ _ _ _ _ _ _ _ _ _ _ _ _ _ _ _ _ _ _ _ _ _ _ _ _ _ _ _ _ _ _ _ _ _ _ _ vout pre true W1 HI1.out HO1.out ?_ (by omega)
      rw [HN.out]; rfl
    | false =>
      go_wp2_with fail
      go_quiet (fail)
      have hd : Below W.heap.size W (W.drewN nq) := pw_below_drewN (Below.refl _ _) nq
      have HI1 := Lib.hid (OneI.step HI.out.1 hd)
      have HO1 := Lib.hid (HI.out.2.1.below hd)
      have hbig := HI.out.2.2.2
      clear hd h0 h1 h2 h3 h4 k0 k1 k2 k3
      generalize W.drewN nq = W1 at *
      obtain ⟨h0, h1, h2, h3, h4⟩ := HX0.out W1 HI1.out.2.2
      have k0 : W1.cell? ⟨bx, 0, none⟩ = some (.int .i64 c.f0.f0) := by have hx := HI1.out.1; simp [World.cell?, hx, cells6]
      have k1 : W1.cell? ⟨bx, 1, none⟩ = some (.int .u8 c.f0.f1) := by have hx := HI1.out.1; simp [World.cell?, hx, cells6]
      have k2 : W1.cell? ⟨bx, 2, none⟩ = some (.string c.f0.f2) := by have hx := HI1.out.1; simp [World.cell?, hx, cells6]
      have k3 : W1.cell? ⟨bx, 3, none⟩ = some (.int .i64 c.f0.f3) := by have hx := HI1.out.1; simp [World.cell?, hx, cells6]
      go_wp2_with ((at_builtin; refine OwnRow.append (w0 := w0) (R := GK w0 (.slice Ao c.f1.length co) c) w0.heap.size rfl (.tmp 31) (.tmp 36) 38 47 (.agg #[.int .i64 0, .int .u8 0, .string ⟨#[]⟩, .int .i64 0, .slice none 0 0]) 5 64 rfl Try.underlying38 info47 rfl (by decide) (by decide) vout pre ⟨c.f0, c.f1⟩ [.int .i64 c.f0.f0, .int .u8 c.f0.f1, .string c.f0.f2, .int .i64 c.f0.f3, .slice Ao c.f1.length co] rfl rfl GK.own rfl (by simp [Value.oneCell']) HO1.out HI1.out.2.2 HI1.out.2.2.size (by omega) ?_; intro v2 w2 ho2 hb2 hg2 hat2; obtain ⟨A2, c2, hv2, _⟩ := ho2.slice_; subst hv2; have HI2 := Lib.hid (OneI.grow HI1.out HO1.out hg2 hb2); simp only [List.length_append, List.length_singleton] at ho2; have HO2 := Lib.hid ho2; clear ho2 hb2 hg2 hat2))
      refine HQ.out _ _ _ _ _ _ _ _ _ _ _ _ _ _ _ _ _ _ _ _ _ _ _ _ _ _ _ _ _ _ _ _ _ _ _ _ _ _ _ _ _ _ _ _ _ _ _ _ _ _ _ _ _ _ _ _ _ _ _ _ _ true w2 HI2.out HO2.out ?_ ?_
      · rw [HN.out]; simp
      · simp
  | false =>
    rw [hk] at hone hqq
    replace hqq := hqq.symm
    clear hk
    cases done with
    | true =>
      have HN := Lib.hid hone
      clear hone
      go_wp2_with fail
      go_quiet (fail)
      have hd : Below W.heap.size W (W.drewN nq) := pw_below_drewN (Below.refl _ _) nq
      have HI1 := Lib.hid (OneI.step HI.out.1 hd)
      have HO1 := Lib.hid (HI.out.2.1.below hd)
      have hbig := HI.out.2.2.2
      clear hd h0 h1 h2 h3 h4 k0 k1 k2 k3
      generalize W.drewN nq = W1 at *
      obtain ⟨h0, h1, h2, h3, h4⟩ := HX0.out W1 HI1.out.2.2
      have k0 : W1.cell? ⟨bx, 0, none⟩ = some (.int .i64 c.f0.f0) := by have hx := HI1.out.1; simp [World.cell?, hx, cells6]
      have k1 : W1.cell? ⟨bx, 1, none⟩ = some (.int .u8 c.f0.f1) := by have hx := HI1.out.1; simp [World.cell?, hx, cells6]
      have k2 : W1.cell? ⟨bx, 2, none⟩ = some (.string c.f0.f2) := by have hx := HI1.out.1; simp [World.cell?, hx, cells6]
      have k3 : W1.cell? ⟨bx, 3, none⟩ = some (.int .i64 c.f0.f3) := by have hx := HI1.out.1; simp [World.cell?, hx, cells6]
      go_wp2_with fail
      go_quiet (fail)
      have hd : Below W1.heap.size W1 (W1.drewN nq) := pw_below_drewN (Below.refl _ _) nq
      have HI3 := Lib.hid (OneI.step HI1.out hd)
      have HO3 := Lib.hid (HO1.out.below hd)
      clear hd h0 h1 h2 h3 h4 k0 k1 k2 k3
      generalize W1.drewN nq = W3 at *
      obtain ⟨h0, h1, h2, h3, h4⟩ := HX0.out W3 HI3.out.2.2
      have hgx := HI.out.2.2.1
      go_wp2_with ((at_builtin; refine OwnRow.append (w0 := w0) (R := GK w0 (.slice Ao c.f1.length co) c) w0.heap.size rfl (.tmp 57) (.tmp 62) 38 47 (.agg #[.int .i64 0, .int .u8 0, .string ⟨#[]⟩, .int .i64 0, .slice none 0 0]) 5 64 rfl Try.underlying38 info47 rfl (by decide) (by decide) vout pre x [.int .i64 x.f0.f0, .int .u8 x.f0.f1, .string x.f0.f2, .int .i64 x.f0.f3, .slice Ax x.f1.length cx] rfl rfl hgx rfl (by simp [Value.oneCell']) HO3.out HI3.out.2.2 HI3.out.2.2.size (by omega) ?_; intro v4 w4 ho4 hb4 hg4 hat4; obtain ⟨A4, c4, hv4, _⟩ := ho4.slice_; subst hv4; have HI4 := Lib.hid (OneI.grow HI3.out HO3.out hg4 hb4); simp only [List.length_append, List.length_singleton] at ho4; have HO4 := Lib.hid ho4; clear ho4 hb4 hg4 hat4))
      refine HQ.out _ _ _ _ _ _ _ _ _ _ _ _ _ _ _ _ _ _ _ _ _ _ _ _ _ _ _ _ _ _ _ _ _ _ _ _ _ _ _ _ _ _ _ _ _ _ _ _ _ _ _ _ _ _ _ _ _ _ _ _ _ true w4 HI4.out HO4.out ?_ ?_
      · rw [HN.out]; simp
      · simp
    | false =>
      have HN := Lib.hid hone
      clear hone
      go_wp2_with fail
      go_quiet (fail)
      have hd : Below W.heap.size W (W.drewN nq) := pw_below_drewN (Below.refl _ _) nq
      have HI1 := Lib.hid (OneI.step HI.out.1 hd)
      have HO1 := Lib.hid (HI.out.2.1.below hd)
      have hbig := HI.out.2.2.2
      clear hd h0 h1 h2 h3 h4 k0 k1 k2 k3
      generalize W.drewN nq = W1 at *
      obtain ⟨h0, h1, h2, h3, h4⟩ := HX0.out W1 HI1.out.2.2
      have k0 : W1.cell? ⟨bx, 0, none⟩ = some (.int .i64 c.f0.f0) := by have hx := HI1.out.1; simp [World.cell?, hx, cells6]
      have k1 : W1.cell? ⟨bx, 1, none⟩ = some (.int .u8 c.f0.f1) := by have hx := HI1.out.1; simp [World.cell?, hx, cells6]
      have k2 : W1.cell? ⟨bx, 2, none⟩ = some (.string c.f0.f2) := by have hx := HI1.out.1; simp [World.cell?, hx, cells6]
      have k3 : W1.cell? ⟨bx, 3, none⟩ = some (.int .i64 c.f0.f3) := by have hx := HI1.out.1; simp [World.cell?, hx, cells6]
      go_wp2_with fail
      go_region_held3 (fun w' => w'.cell? ⟨bx, 0, none⟩ = some (.int .i64 c.f0.f0) ∧ w'.cell? ⟨bx, 1, none⟩ = some (.int .u8 c.f0.f1) ∧ w'.cell? ⟨bx, 2, none⟩ = some (.string c.f0.f2) ∧ w'.cell? ⟨bx, 3, none⟩ = some (.int .i64 c.f0.f3) ∧ w'.cell? (ad.add (i * 5)) = some (.int .i64 x.f0.f0) ∧ w'.cell? ⟨(ad.add (i * 5)).block, (ad.add (i * 5)).off + 1, none⟩ = some (.int .u8 x.f0.f1) ∧ w'.cell? ⟨(ad.add (i * 5)).block, (ad.add (i * 5)).off + 2, none⟩ = some (.string x.f0.f2) ∧ w'.cell? ⟨(ad.add (i * 5)).block, (ad.add (i * 5)).off + 3, none⟩ = some (.int .i64 x.f0.f3))
        (first | go_keep | (go_split_ands; exact ⟨cell_below hb7 k0, cell_below hb7 k1, cell_below hb7 k2, cell_below hb7 k3, cell_below hb7 h0, cell_below hb7 h1, cell_below hb7 h2, cell_below hb7 h3⟩))
        (first | (go_at_call 58; (with_reducible refine (HB.out _).mono ?_); rintro e w7 ⟨rfl, hb7⟩))
      have hd : Below W1.heap.size W1 w7 := (Below.refl _ _).drew.trans (hb7.mono (Nat.le_refl _))
      have HI7 := Lib.hid (OneI.step HI1.out hd)
      have HO7 := Lib.hid (HO1.out.below hd)
      clear hd hb7 h0 h1 h2 h3 h4 k0 k1 k2 k3
      obtain ⟨h0, h1, h2, h3, h4⟩ := HX0.out w7 HI7.out.2.2
      have k0 : w7.cell? ⟨bx, 0, none⟩ = some (.int .i64 c.f0.f0) := by have hx := HI7.out.1; simp [World.cell?, hx, cells6]
      have k1 : w7.cell? ⟨bx, 1, none⟩ = some (.int .u8 c.f0.f1) := by have hx := HI7.out.1; simp [World.cell?, hx, cells6]
      have k2 : w7.cell? ⟨bx, 2, none⟩ = some (.string c.f0.f2) := by have hx := HI7.out.1; simp [World.cell?, hx, cells6]
      have k3 : w7.cell? ⟨bx, 3, none⟩ = some (.int .i64 c.f0.f3) := by have hx := HI7.out.1; simp [World.cell?, hx, cells6]
      have hgx := HI.out.2.2.1
      cases hbf : bef c.f0 x.f0 with
      | true =>
        rw [hbf] at HN
        clear hbf
        go_wp2_with (first | (at_builtin; refine OwnRow.append (w0 := w0) (R := GK w0 (.slice Ao c.f1.length co) c) w0.heap.size rfl (.tmp 50) (.tmp 55) 38 47 (.agg #[.int .i64 0, .int .u8 0, .string ⟨#[]⟩, .int .i64 0, .slice none 0 0]) 5 64 rfl Try.underlying38 info47 rfl (by decide) (by decide) vout pre ⟨c.f0, c.f1⟩ [.int .i64 c.f0.f0, .int .u8 c.f0.f1, .string c.f0.f2, .int .i64 c.f0.f3, .slice Ao c.f1.length co] rfl rfl GK.own rfl (by simp [Value.oneCell']) HO7.out HI7.out.2.2 HI7.out.2.2.size (by omega) ?_; intro v8 w8 ho8 hb8 hg8 hat8; obtain ⟨A8, c8, hv8, _⟩ := ho8.slice_; subst hv8; have HI8 := Lib.hid (OneI.grow HI7.out HO7.out hg8 hb8); simp only [List.length_append, List.length_singleton] at ho8; have HO8 := Lib.hid ho8; obtain ⟨h0, h1, h2, h3, h4⟩ := HX0.out w8 HI8.out.2.2; clear ho8 hb8 hg8 hat8) | (at_builtin; refine OwnRow.append (w0 := w0) (R := GK w0 (.slice Ao c.f1.length co) c) w0.heap.size rfl (.tmp 57) (.tmp 62) 38 47 (.agg #[.int .i64 0, .int .u8 0, .string ⟨#[]⟩, .int .i64 0, .slice none 0 0]) 5 64 rfl Try.underlying38 info47 rfl (by decide) (by decide) (.slice A8 (pre.length + 1) c8) (pre ++ [⟨c.f0, c.f1⟩]) x [.int .i64 x.f0.f0, .int .u8 x.f0.f1, .string x.f0.f2, .int .i64 x.f0.f3, .slice Ax x.f1.length cx] rfl rfl hgx rfl (by simp [Value.oneCell']) HO8.out HI8.out.2.2 HI8.out.2.2.size (by simp; omega) ?_; intro v9 w9 ho9 hb9 hg9 hat9; obtain ⟨A9, c9, hv9, _⟩ := ho9.slice_; subst hv9; have HI9 := Lib.hid (OneI.grow HI8.out HO8.out hg9 hb9); simp only [List.length_append, List.length_singleton] at ho9; have HO9 := Lib.hid ho9; clear ho9 hb9 hg9 hat9))
        refine HQ.out _ _ _ _ _ _ _ _ _ _ _ _ _ _ _ _ _ _ _ _ _ _ _ _ _ _ _ _ _ _ _ _ _ _ _ _ _ _ _ _ _ _ _ _ _ _ _ _ _ _ _ _ _ _ _ _ _ _ _ _ _ true w9 HI9.out HO9.out ?_ ?_
        · rw [HN.out]; simp
        · simp
      | false =>
        rw [hbf] at HN
        clear hbf
        go_wp2_with ((at_builtin; refine OwnRow.append (w0 := w0) (R := GK w0 (.slice Ao c.f1.length co) c) w0.heap.size rfl (.tmp 57) (.tmp 62) 38 47 (.agg #[.int .i64 0, .int .u8 0, .string ⟨#[]⟩, .int .i64 0, .slice none 0 0]) 5 64 rfl Try.underlying38 info47 rfl (by decide) (by decide) vout pre x [.int .i64 x.f0.f0, .int .u8 x.f0.f1, .string x.f0.f2, .int .i64 x.f0.f3, .slice Ax x.f1.length cx] rfl rfl hgx rfl (by simp [Value.oneCell']) HO7.out HI7.out.2.2 HI7.out.2.2.size (by omega) ?_; intro v10 w10 ho10 hb10 hg10 hat10; obtain ⟨A10, c10, hv10, _⟩ := ho10.slice_; subst hv10; have HI10 := Lib.hid (OneI.grow HI7.out HO7.out hg10 hb10); simp only [List.length_append, List.length_singleton] at ho10; have HO10 := Lib.hid ho10; clear ho10 hb10 hg10 hat10))
        refine HQ.out _ _ _ _ _ _ _ _ _ _ _ _ _ _ _ _ _ _ _ _ _ _ _ _ _ _ _ _ _ _ _ _ _ _ _ _ _ _ _ _ _ _ _ _ _ _ _ _ _ _ _ _ _ _ _ _ _ _ _ _ _ false w10 HI10.out HO10.out ?_ ?_
        · rw [HN.out]; simp
        · simp
end Go.Proofs.Ytbhmncenbpdcjaa.P
end
section
/- carrackref06.one: its contract. -/
namespace Go.Proofs.Ytbhmncenbpdcjaa.P
open Go Go.Shelf Go.RowKit Go.Proofs.YtbhmncenbpdcjaaW.PrintWords Go.Proofs.YtbhmncenbpdcjaaW.PrintLast Go.Proofs.YtbhmncenbpdcjaaW.PrintMore
set_option linter.unusedVariables false
set_option linter.unusedSimpArgs false
attribute [local go_sem] Oper.semAt_some
theorem oneL_length (c : Ch) : ∀ (l : List F) (done : Bool), (oneL c done l).length ≤ l.length + (if done then 0 else 1)
  | [], done => by cases done <;> simp [oneL]
  | x :: l, done => by
    unfold oneL
    have h1 := oneL_length c l true
    have h2 := oneL_length c l done
    simp only [if_true] at h1
    split
    · split
      · rename_i hd; subst hd; simp at h1 ⊢; omega
      · rename_i hd; simp [hd] at h1 ⊢; omega
    · split
      · rename_i hb; cases done <;> simp at hb h1 ⊢; omega
      · simp at h2 ⊢; omega
theorem own_reads {w0 : World} {bx : Nat} {c : Ch} {A4 : Option Addr} {c4 : Nat} {ov v : Value} {W : World} {ps : List F} (hI : OneI w0 bx c A4 c4 ov W) (hO : OwnRow (GK w0 ov c) 47 5 W w0.heap.size v ps) :
    ∃ A n, v = .slice A ps.length n ∧ ps.length ≤ n ∧ Kd.C k47 W A ps.length ps :=
  (hO.imp_ (R' := k47.K W) fun p cs h => h W hI.2.2 hI.2.1).reads
def OneEnd (c : Ch) (l : List F) (w : World) (e : Ending) (w' : World) : Prop := ∃ A n, e = .returned (.slice A (oneL c c.f2 l).length n) ∧ (oneL c c.f2 l).length ≤ n ∧ Kd.C k47 w' A (oneL c c.f2 l).length (oneL c c.f2 l) ∧ Below w.heap.size w w'
/-- Between two rounds. -/
def OnI (u1 u2 u4 u9 u10 u11 u12 u13 u14 : Value) (bx : Nat) (A : Option Addr) (cap : Nat) (l : List F) (w0 : World) (c : Ch) (A4 : Option Addr) (c4 : Nat) (Ao : Option Addr) (co : Nat) (a : Act) (W : World) : Prop :=
  ∃ (i : Nat) (vout : Value) (pre : List F) (done : Bool) (v15 v16 v17 v18 v19 v20 v21 v22 v23 v24 v25 v26 v27 v28 v29 v30 v31 v32 v33 v34 v35 v36 v37 v38 v39 v40 v41 v42 v43 v44 v45 v46 v47 v48 v49 v50 v51 v52 v53 v54 v55 v56 v57 v58 v59 v60 v61 v62 v63 v64 v65 v66 v67 v68 v69 v70 v71 v72 v73 : Value), a = { tmps := #[.slice A l.length cap, u1, u2, .pointer (some ⟨bx, 0, none⟩), u4, vout, .bool done, .slice Ao c.f1.length co, .int .i64 i, u9, u10, u11, u12, u13, u14, v15, v16, v17, v18, v19, v20, v21, v22, v23, v24, v25, v26, v27, v28, v29, v30, v31, v32, v33, v34, v35, v36, v37, v38, v39, v40, v41, v42, v43, v44, v45, v46, v47, v48, v49, v50, v51, v52, v53, v54, v55, v56, v57, v58, v59, v60, v61, v62, v63, v64, v65, v66, v67, v68, v69, v70, v71, v72, v73], defers := [] } ∧ i ≤ l.length ∧
    OneI w0 bx c A4 c4 (.slice Ao c.f1.length co) W ∧ OwnRow (GK w0 (.slice Ao c.f1.length co) c) 47 5 W w0.heap.size vout pre ∧ pre ++ oneL c done (l.drop i) = oneL c c.f2 l
set_option maxRecDepth 100000 in
set_option maxHeartbeats 4000000 in
theorem one_exit (u1 u2 u3 u4 u5 u6 u7 u9 u10 u11 u12 u13 u14 u15 u16 u17 u18 u19 u20 u21 u22 u23 u24 u25 u26 u27 u28 u29 u30 u31 u32 u33 u34 u35 u36 u37 u38 u39 u40 u41 u42 u43 u44 u45 u46 u47 u48 u49 u50 u51 u52 u53 u54 u55 u56 u57 u58 u59 u60 u61 u62 u63 u64 u65 u66 u67 u68 u69 u70 u71 u72 u73 : Value) (A : Option Addr) (cap : Nat) (l : List F) (hl : l.length ≤ 9223372036854775807) (W : World) (Q : Exit → Act → World → Prop)
    (hQ : ∀ (v15 v16 v17 v18 : Value), Q (.exit 0) { tmps := #[.slice A l.length cap, u1, u2, u3, u4, u5, u6, u7, .int .i64 l.length, u9, u10, u11, u12, u13, u14, v15, v16, v17, v18, u19, u20, u21, u22, u23, u24, u25, u26, u27, u28, u29, u30, u31, u32, u33, u34, u35, u36, u37, u38, u39, u40, u41, u42, u43, u44, u45, u46, u47, u48, u49, u50, u51, u52, u53, u54, u55, u56, u57, u58, u59, u60, u61, u62, u63, u64, u65, u66, u67, u68, u69, u70, u71, u72, u73], defers := [] } W) :
    Code.wp Try.prog oneBody Q { tmps := #[.slice A l.length cap, u1, u2, u3, u4, u5, u6, u7, .int .i64 l.length, u9, u10, u11, u12, u13, u14, u15, u16, u17, u18, u19, u20, u21, u22, u23, u24, u25, u26, u27, u28, u29, u30, u31, u32, u33, u34, u35, u36, u37, u38, u39, u40, u41, u42, u43, u44, u45, u46, u47, u48, u49, u50, u51, u52, u53, u54, u55, u56, u57, u58, u59, u60, u61, u62, u63, u64, u65, u66, u67, u68, u69, u70, u71, u72, u73], defers := [] } W := by
  conv => arg 2; whnf
  have HQ := Lib.hid hQ
  clear hQ
  go_wp2_with fail
  exact HQ.out _ _ _ _
set_option maxRecDepth 100000 in
set_option maxHeartbeats 4000000 in
theorem one_loop (u1 u2 u4 u9 u10 u11 u12 u13 u14 u15 u16 u17 u18 u19 u20 u21 u22 u23 u24 u25 u26 u27 u28 u29 u30 u31 u32 u33 u34 u35 u36 u37 u38 u39 u40 u41 u42 u43 u44 u45 u46 u47 u48 u49 u50 u51 u52 u53 u54 u55 u56 u57 u58 u59 u60 u61 u62 u63 u64 u65 u66 u67 u68 u69 u70 u71 u72 u73 : Value) (bx : Nat) (A : Option Addr) (cap : Nat) (l : List F) (w0 : World) (c : Ch) (A4 : Option Addr) (c4 : Nat) (Ao : Option Addr) (co : Nat) (W : World) (Q : Exit → Act → World → Prop)
    (hn : ∀ x ∈ l, x.f0.f2.size ≤ maxLen) (hcn : c.f0.f2.size ≤ maxLen) (hr : Kd.C k47 w0 A l.length l) (hc : l.length ≤ cap) (hbig : (l.length + 3) * 64 ≤ 140737488355328) (hI : OneI w0 bx c A4 c4 (.slice Ao c.f1.length co) W)
    (hQ : ∀ (v15 v16 v17 v18 v19 v20 v21 v22 v23 v24 v25 v26 v27 v28 v29 v30 v31 v32 v33 v34 v35 v36 v37 v38 v39 v40 v41 v42 v43 v44 v45 v46 v47 v48 v49 v50 v51 v52 v53 v54 v55 v56 v57 v58 v59 v60 v61 v62 v63 v64 v65 v66 v67 v68 v69 v70 v71 v72 v73 v' : Value) (pre : List F) (done : Bool) (W' : World), OneI w0 bx c A4 c4 (.slice Ao c.f1.length co) W' → OwnRow (GK w0 (.slice Ao c.f1.length co) c) 47 5 W' w0.heap.size v' pre → pre ++ oneL c done [] = oneL c c.f2 l → pre.length ≤ l.length + 1 →
      Q (.exit 0) { tmps := #[.slice A l.length cap, u1, u2, .pointer (some ⟨bx, 0, none⟩), u4, v', .bool done, .slice Ao c.f1.length co, .int .i64 l.length, u9, u10, u11, u12, u13, u14, v15, v16, v17, v18, v19, v20, v21, v22, v23, v24, v25, v26, v27, v28, v29, v30, v31, v32, v33, v34, v35, v36, v37, v38, v39, v40, v41, v42, v43, v44, v45, v46, v47, v48, v49, v50, v51, v52, v53, v54, v55, v56, v57, v58, v59, v60, v61, v62, v63, v64, v65, v66, v67, v68, v69, v70, v71, v72, v73], defers := [] } W') :
    Code.wp Try.prog (.loop oneBody) Q { tmps := #[.slice A l.length cap, u1, u2, .pointer (some ⟨bx, 0, none⟩), u4, .slice none 0 0, .bool c.f2, .slice Ao c.f1.length co, .int .i64 0, u9, u10, u11, u12, u13, u14, u15, u16, u17, u18, u19, u20, u21, u22, u23, u24, u25, u26, u27, u28, u29, u30, u31, u32, u33, u34, u35, u36, u37, u38, u39, u40, u41, u42, u43, u44, u45, u46, u47, u48, u49, u50, u51, u52, u53, u54, u55, u56, u57, u58, u59, u60, u61, u62, u63, u64, u65, u66, u67, u68, u69, u70, u71, u72, u73], defers := [] } W := by
  have hlen : ∀ (pre : List F) done i, pre ++ oneL c done (l.drop i) = oneL c c.f2 l → pre.length ≤ l.length + 1 := fun pre done i h => by
    have h1 := congrArg List.length h
    have h2 := oneL_length c l c.f2
    rw [List.length_append] at h1
    split at h2 <;> omega
  refine wp_loop (OnI u1 u2 u4 u9 u10 u11 u12 u13 u14 bx A cap l w0 c A4 c4 Ao co) (fun a _ => l.length - (intOf (a.tmps.getD 8 undef)).toNat) ?_ ?_
  · exact ⟨0, .slice none 0 0, [], c.f2, u15, u16, u17, u18, u19, u20, u21, u22, u23, u24, u25, u26, u27, u28, u29, u30, u31, u32, u33, u34, u35, u36, u37, u38, u39, u40, u41, u42, u43, u44, u45, u46, u47, u48, u49, u50, u51, u52, u53, u54, u55, u56, u57, u58, u59, u60, u61, u62, u63, u64, u65, u66, u67, u68, u69, u70, u71, u72, u73, rfl, Nat.zero_le _, hI, OwnRow.none_ _ _ _ _ _, rfl⟩
  · rintro a wr ⟨i, vout, pre, done, v15, v16, v17, v18, v19, v20, v21, v22, v23, v24, v25, v26, v27, v28, v29, v30, v31, v32, v33, v34, v35, v36, v37, v38, v39, v40, v41, v42, v43, v44, v45, v46, v47, v48, v49, v50, v51, v52, v53, v54, v55, v56, v57, v58, v59, v60, v61, v62, v63, v64, v65, v66, v67, v68, v69, v70, v71, v72, v73, rfl, hi, hIr, hOr, heq⟩
    have hpl := hlen pre done i heq
    rcases Nat.lt_or_ge i l.length with hlt | hge
    · refine one_round u1 u2 u4 u9 u10 u11 u12 u13 u14 v15 v16 v17 v18 v19 v20 v21 v22 v23 v24 v25 v26 v27 v28 v29 v30 v31 v32 v33 v34 v35 v36 v37 v38 v39 v40 v41 v42 v43 v44 v45 v46 v47 v48 v49 v50 v51 v52 v53 v54 v55 v56 v57 v58 v59 v60 v61 v62 v63 v64 v65 v66 v67 v68 v69 v70 v71 v72 v73 bx i A cap l w0 c A4 c4 Ao co vout pre done wr _ hlt hn hcn hr hc hIr hOr (by omega) ?_
      intro x15 x16 x17 x18 x19 x20 x21 x22 x23 x24 x25 x26 x27 x28 x29 x30 x31 x32 x33 x34 x35 x36 x37 x38 x39 x40 x41 x42 x43 x44 x45 x46 x47 x48 x49 x50 x51 x52 x53 x54 x55 x56 x57 x58 x59 x60 x61 x62 x63 x64 x65 x66 x67 x68 x69 x70 x71 x72 x73 v' pre' done' W' h1 h2 h3 h4
      refine ⟨⟨i + 1, v', pre', done', x15, x16, x17, x18, x19, x20, x21, x22, x23, x24, x25, x26, x27, x28, x29, x30, x31, x32, x33, x34, x35, x36, x37, x38, x39, x40, x41, x42, x43, x44, x45, x46, x47, x48, x49, x50, x51, x52, x53, x54, x55, x56, x57, x58, x59, x60, x61, x62, x63, x64, x65, x66, x67, x68, x69, x70, x71, x72, x73, by rw [show ((i : Int) + 1) = ((i + 1 : Nat) : Int) by omega], hlt, h1, h2, h3.symm.trans heq⟩, ?_⟩
      show l.length - (intOf (Value.int .i64 ((i : Int) + 1))).toNat < l.length - (intOf (Value.int .i64 (i : Int))).toNat
      simp [intOf]
      omega
    · obtain rfl : i = l.length := by omega
      refine one_exit u1 u2 _ u4 _ _ _ u9 u10 u11 u12 u13 u14 v15 v16 v17 v18 v19 v20 v21 v22 v23 v24 v25 v26 v27 v28 v29 v30 v31 v32 v33 v34 v35 v36 v37 v38 v39 v40 v41 v42 v43 v44 v45 v46 v47 v48 v49 v50 v51 v52 v53 v54 v55 v56 v57 v58 v59 v60 v61 v62 v63 v64 v65 v66 v67 v68 v69 v70 v71 v72 v73 A cap l hr.2.1 wr _ ?_
      intro x15 x16 x17 x18
      exact hQ x15 x16 x17 x18 v19 v20 v21 v22 v23 v24 v25 v26 v27 v28 v29 v30 v31 v32 v33 v34 v35 v36 v37 v38 v39 v40 v41 v42 v43 v44 v45 v46 v47 v48 v49 v50 v51 v52 v53 v54 v55 v56 v57 v58 v59 v60 v61 v62 v63 v64 v65 v66 v67 v68 v69 v70 v71 v72 v73 vout pre done wr hIr hOr (by rw [List.drop_length] at heq; exact heq) hpl
set_option maxRecDepth 100000 in
set_option maxHeartbeats 8000000 in
theorem one_any (A : Option Addr) (cap : Nat) (l : List F) (c : Ch) (A4 : Option Addr) (c4 : Nat) (w : World) (hr : Kd.C k47 w A l.length l) (hc : l.length ≤ cap) (hC : Kd.C (Kd.int .u8) w A4 c.f1.length c.f1) (hc4 : c.f1.length ≤ c4)
    (hn : ∀ x ∈ l, x.f0.f2.size ≤ maxLen) (hcn : c.f0.f2.size ≤ maxLen) (hbig : (l.length + 3) * 64 ≤ 140737488355328) (hcv : c.f1.length < 140737488355328) :
    Calls Try.prog 41 #[.slice A l.length cap, .agg #[.int .i64 c.f0.f0, .int .u8 c.f0.f1, .string c.f0.f2, .int .i64 c.f0.f3, .slice A4 c.f1.length c4, .bool c.f2]] w (OneEnd c l w) := by
  have HX := Lib.hid (And.intro hr (And.intro hc (And.intro hn (And.intro hcn hbig))))
  have HC := Aside0.mk hC
  have HC4 := Aside0.mk hc4
  have HB := Aside0.mk (Below.refl w.heap.size w)
  have LM := Aside0.mk hcv
  have hx0 := World.alloc_heap_new w (Obj.cells (cells6 c A4 c4).toArray 53)
  clear hr hc hC hc4 hn hcn hbig hcv
  go_enter Try.func41, Try.ntmps41
  go_wp2_with ((with_reducible refine gate_builtin (b := .append) (xs := #[.tmp 11, .tmp 13]) rfl ?_); at_builtin; refine Kd.R_append_rows (Kd.int .u8) (w0 := w) w.heap.size rfl (.tmp 11) (.tmp 13) 22 5 (.int .u8 0) 1 rfl Try.underlying22 info5 rfl (by decide) (by omega) (.slice none 0 0) ([] : List Int) c.f1 _ _ _ (fun _ => True) (fun _ => False) rfl rfl ?aO ?aR (fun _ _ h => h) (fun _ h => h.elim) ?aF ?aB ?aS ?aL ?_; (case aR => exact Kd.C_alloc HC.out _); (case aB => exact below_alloc HB.out _); (case aF => exact (fun _ _ => trivial)); (case aO => exact Kd.R_nil _ _ _ _ _); (case aS => simp); (case aL => have := LM.out; simp; omega); intro v2 w3 ho hb hg hat; rw [List.nil_append] at ho; obtain ⟨Ao, co, hvo⟩ := Kd.R_slice ho; subst hvo; have hx3 := (hg.block w.heap.size (by simp) (by simp [Value.ownBlock])).trans hx0; have HI := Lib.hid (show OneI w w.heap.size c A4 c4 (.slice Ao c.f1.length co) w3 from ⟨hx3, ho, hb⟩); clear ho hb hg hat hx3)
  obtain ⟨hr, hc, hn, hcn, hbig⟩ := HX.out
  refine one_loop _ _ _ _ _ _ _ _ _ _ _ _ _ _ _ _ _ _ _ _ _ _ _ _ _ _ _ _ _ _ _ _ _ _ _ _ _ _ _ _ _ _ _ _ _ _ _ _ _ _ _ _ _ _ _ _ _ _ _ _ _ _ _ _ _ _ _ _ w.heap.size A cap l w c A4 c4 Ao co w3 _ hn hcn hr hc hbig HI.out ?_
  intro v15 v16 v17 v18 v19 v20 v21 v22 v23 v24 v25 v26 v27 v28 v29 v30 v31 v32 v33 v34 v35 v36 v37 v38 v39 v40 v41 v42 v43 v44 v45 v46 v47 v48 v49 v50 v51 v52 v53 v54 v55 v56 v57 v58 v59 v60 v61 v62 v63 v64 v65 v66 v67 v68 v69 v70 v71 v72 v73 v' pre done W' hI hO heq hpl
  dsimp only
  obtain ⟨Ap, cp, rfl, _⟩ := hO.slice_
  have k0 : W'.cell? ⟨w.heap.size, 0, none⟩ = some (.int .i64 c.f0.f0) := by have hx := hI.1; simp [World.cell?, hx, cells6]
  have k1 : W'.cell? ⟨w.heap.size, 1, none⟩ = some (.int .u8 c.f0.f1) := by have hx := hI.1; simp [World.cell?, hx, cells6]
  have k2 : W'.cell? ⟨w.heap.size, 2, none⟩ = some (.string c.f0.f2) := by have hx := hI.1; simp [World.cell?, hx, cells6]
  have k3 : W'.cell? ⟨w.heap.size, 3, none⟩ = some (.int .i64 c.f0.f3) := by have hx := hI.1; simp [World.cell?, hx, cells6]
  have HZ := Lib.hid (And.intro hI (And.intro hO heq))
  clear hr hc hn hcn hI hO heq hx0
  cases done with
  | true =>
    go_wp2
    go_ret
    obtain ⟨hI, hO, heq⟩ := HZ.out
    rw [show oneL c true [] = [] from rfl, List.append_nil] at heq
    obtain ⟨A', n', hv, hle, hC'⟩ := own_reads hI hO
    injection hv with e1 _ e2
    subst e1 e2
    rw [heq] at hC' hle
    exact ⟨Ap, cp, by rw [heq]; rfl, hle, hC', hI.2.2⟩
  | false =>
    go_wp2_with (at_builtin; refine OwnRow.append (w0 := w) (R := GK w (.slice Ao c.f1.length co) c) w.heap.size rfl (.tmp 66) (.tmp 71) 38 47 (.agg #[.int .i64 0, .int .u8 0, .string ⟨#[]⟩, .int .i64 0, .slice none 0 0]) 5 64 rfl Try.underlying38 info47 rfl (by decide) (by decide) (.slice Ap pre.length cp) pre ⟨c.f0, c.f1⟩ [.int .i64 c.f0.f0, .int .u8 c.f0.f1, .string c.f0.f2, .int .i64 c.f0.f3, .slice Ao c.f1.length co] rfl rfl GK.own rfl (by simp [Value.oneCell']) HZ.out.2.1 HZ.out.1.2.2 HZ.out.1.2.2.size (by omega) ?_; intro v5 w5 ho5 hb5 hg5 hat5; obtain ⟨A5, c5, hv5, _⟩ := ho5.slice_; subst hv5; have HI5 := Lib.hid (OneI.grow HZ.out.1 HZ.out.2.1 hg5 hb5); have HO5 := Lib.hid ho5; clear ho5 hb5 hg5 hat5)
    go_ret
    obtain ⟨hI, hO, heq⟩ := HZ.out
    obtain ⟨A', n', hv, hle, hC'⟩ := own_reads HI5.out HO5.out
    injection hv with e1 _ e2
    subst e1 e2
    have heq' : pre ++ [(⟨c.f0, c.f1⟩ : F)] = oneL c c.f2 l := heq
    rw [heq'] at hC' hle
    exact ⟨A5, c5, by rw [← heq', List.length_append]; rfl, hle, hC', HI5.out.2.2⟩
end Go.Proofs.Ytbhmncenbpdcjaa.P
end
section
/- carrackref06.Apply: its contract; that it answers as the program's. -/
namespace Go.Proofs.Ytbhmncenbpdcjaa.P
open Go Go.Shelf Go.RowKit Go.Proofs.YtbhmncenbpdcjaaW.PrintWords Go.Proofs.YtbhmncenbpdcjaaW.PrintLast Go.Proofs.YtbhmncenbpdcjaaW.PrintMore
set_option linter.unusedVariables false
set_option linter.unusedSimpArgs false
attribute [local go_sem] Oper.semAt_some
/-- Elements that are told by a relation that no world changes. -/
def stat {α : Type} (sz : Nat) (R : α → List Value → Prop) (hl : ∀ x cs, R x cs → cs.length = sz) (h1 : ∀ x cs, R x cs → ∀ u ∈ cs, u.oneCell' = true) : Kd α where
  sz := sz
  E := []
  K := fun _ => R
  M := fun _ _ _ => R
  K_len := fun h => hl _ _ h
  K_one := fun h => h1 _ _ h
  K_below := fun _ h => h
  K_of_M := fun h => h
  M_mono := fun _ h => h
  M_bound := fun h => h
  M_move := fun _ h => h
  M_lower := fun _ h => h
def GS (w0 : World) (x : F) (cs : List Value) : Prop := ∀ W', Below w0.heap.size w0 W' → k47.K W' x cs
def kGS (w0 : World) : Kd F := stat 5 (GS w0) (fun x cs h => k47.K_len (h w0 (Below.refl _ _))) (fun x cs h => k47.K_one (h w0 (Below.refl _ _)))
theorem mem_oneL (c : Ch) : ∀ (l : List F) (d : Bool) (x : F), x ∈ oneL c d l → x = ⟨c.f0, c.f1⟩ ∨ x ∈ l
  | [], d, x, h => by cases d <;> simp [oneL] at h; exact .inl h
  | y :: l, d, x, h => by
    unfold oneL at h
    split at h
    · split at h
      · rcases mem_oneL c l true x h with h | h
        · exact .inl h
        · exact .inr (by simp [h])
      · rcases List.mem_cons.1 h with h | h
        · exact .inl h
        · rcases mem_oneL c l true x h with h | h
          · exact .inl h
          · exact .inr (by simp [h])
    · split at h
      · rcases List.mem_cons.1 h with h | h
        · exact .inl h
        · rcases List.mem_cons.1 h with h | h
          · exact .inr (by simp [h])
          · rcases mem_oneL c l true x h with h | h
            · exact .inl h
            · exact .inr (by simp [h])
      · rcases List.mem_cons.1 h with h | h
        · exact .inr (by simp [h])
        · rcases mem_oneL c l d x h with h | h
          · exact .inl h
          · exact .inr (by simp [h])
def refApplyL (l : List F) (cs : List Ch) : List F := cs.foldl (fun l c => oneL c c.f2 l) l
theorem refApply_snoc (l : List F) (cs : List Ch) (c : Ch) : refApplyL l (cs ++ [c]) = oneL c c.f2 (refApplyL l cs) := by simp [refApplyL]
theorem refApply_length : ∀ (cs : List Ch) (l : List F), (refApplyL l cs).length ≤ l.length + cs.length
  | [], l => Nat.le_refl _
  | c :: cs, l => by
    have h1 := refApply_length cs (oneL c c.f2 l)
    have h2 := oneL_length c l c.f2
    show (refApplyL (oneL c c.f2 l) cs).length ≤ _
    simp only [List.length_cons]
    split at h2 <;> omega
theorem bound_of {q r a b i : Nat} (h1 : q ≤ a + r) (h2 : r ≤ i) (hi : i ≤ b) (hb : (a + b + 3) * 64 ≤ 140737488355328) : (q + 3) * 64 ≤ 140737488355328 := by
  have h : q + 3 ≤ a + b + 3 := by clear hb; omega
  exact Nat.le_trans (Nat.mul_le_mul_right _ h) hb
theorem refApply_bound (l0 : List F) (l1 : List Ch) (i : Nat) (hi : i ≤ l1.length) (hb : (l0.length + l1.length + 3) * 64 ≤ 140737488355328) : ((refApplyL l0 (l1.take i)).length + 3) * 64 ≤ 140737488355328 :=
  bound_of (refApply_length (l1.take i) l0) (List.length_take_le _ _) hi hb
theorem mem_refApply : ∀ (cs : List Ch) (l : List F) (x : F), x ∈ refApplyL l cs → x ∈ l ∨ ∃ c ∈ cs, x = ⟨c.f0, c.f1⟩
  | [], l, x, h => .inl h
  | c :: cs, l, x, h => by
    rcases mem_refApply cs (oneL c c.f2 l) x h with h | ⟨d, hd, h⟩
    · rcases mem_oneL c l c.f2 x h with h | h
      · exact .inr ⟨c, by simp, h⟩
      · exact .inl h
    · exact .inr ⟨d, by simp [hd], h⟩
def RefApplyEnd (l : List F) (cs : List Ch) (w : World) (e : Ending) (w' : World) : Prop :=
  ∃ A n, e = .returned (.slice A (if ordB l then refApplyL l cs else []).length n) ∧ (if ordB l then refApplyL l cs else []).length ≤ n ∧ Kd.C k47 w' A (if ordB l then refApplyL l cs else []).length (if ordB l then refApplyL l cs else []) ∧ Below w.heap.size w w'
set_option maxRecDepth 100000 in
set_option maxHeartbeats 8000000 in
theorem refApply_any (A0 : Option Addr) (c0 : Nat) (l0 : List F) (A1 : Option Addr) (c1 : Nat) (l1 : List Ch) (w : World) (hr0 : Kd.C k47 w A0 l0.length l0) (hc0 : l0.length ≤ c0) (hr1 : Kd.C k53 w A1 l1.length l1) (hc1 : l1.length ≤ c1)
    (hn0 : ∀ x ∈ l0, x.f0.f2.size ≤ maxLen) (hn1 : ∀ x ∈ l1, x.f0.f2.size ≤ maxLen) (hs1 : ∀ x ∈ l1, x.f1.length < 140737488355328) (hbig : (l0.length + l1.length + 3) * 64 ≤ 140737488355328) :
    Calls Try.prog 21 #[.slice A0 l0.length c0, .slice A1 l1.length c1] w (RefApplyEnd l0 l1 w) := by
  have HO := Lib.hid (carrackref06_Ordered.calls (l0.length + 1) A0 c0 l0 _ w hr0 hc0 (refOrdered_f l0 hr0.2.1 hn0 _ (Nat.lt_succ_self _)))
  have hl1 : l1.length ≤ 9223372036854775807 := hr1.2.1
  have HX := Lib.hid (And.intro hr0 (And.intro hr1 (And.intro hn0 (And.intro hn1 (And.intro hs1 (And.intro hc0 hc1))))))
  have HBig := Lib.hid hbig
  clear hr0 hr1 hn0 hn1 hs1 hc0 hc1 hbig
  cases ho : ordB l0 with
  | false =>
    rw [ho] at HO
    have HE := Lib.hid ho
    clear ho
    go_enter Try.func21, Try.ntmps21
    go_wp2_with fail
    refine HO.out.mono ?_
    rintro e w1 ⟨rfl, hb1⟩
    go_wp2
    go_ret
    unfold RefApplyEnd
    rw [HE.out]
    exact ⟨none, 0, rfl, Nat.le_refl _, Kd.C_nil _ _, hb1⟩
  | true =>
    rw [ho] at HO
    have HE := Lib.hid ho
    clear ho
    go_enter Try.func21, Try.ntmps21
    go_wp2_with fail
    refine HO.out.mono ?_
    rintro e w1 ⟨rfl, hb1⟩
    have HB1 := Lib.hid hb1
    have hGS : Hid (ReadsRow (GS w) 5 w1 A0 l0.length l0) := Lib.hid (ReadsRow.imp_ HX.out.1 hb1 fun x cs h W' hb => k47.K_below hb h)
    clear hb1
    go_wp2_with ((with_reducible refine gate_builtin (b := .append) (xs := #[.tmp 10, .tmp 11]) rfl ?_); at_builtin; refine Kd.R_append_rows (kGS w) (Rr := GS w) (w0 := w) w.heap.size rfl (.tmp 10) (.tmp 11) 38 47 (.agg #[.int .i64 0, .int .u8 0, .string ⟨#[]⟩, .int .i64 0, .slice none 0 0]) 64 rfl Try.underlying38 info47 rfl (show 0 < 5 by decide) (by decide) (.slice none 0 0) ([] : List F) l0 _ _ _ (fun _ => True) (fun _ => False) rfl rfl ?aO hGS.out (fun _ _ h => h) (fun _ h => h.elim) (fun _ _ => trivial) HB1.out HB1.out.size ?aL ?_; (case aO => exact Kd.R_nil _ _ _ _ _); (case aL => have := HBig.out; simp; omega); intro v2 w2 ho2 hb2 hg2 hat2; rw [List.nil_append] at ho2; have HZ2 : Hid (∃ A n, v2 = .slice A l0.length n ∧ l0.length ≤ n ∧ Kd.C k47 w2 A l0.length l0) := Lib.hid ((ho2.2.imp_ (R' := k47.K w2) fun p cs h => h w2 hb2).reads); have HB2 := Lib.hid hb2; clear ho2 hb2 hg2 hat2)
    obtain ⟨A2, n2, rfl, hle2, hC2⟩ := HZ2.out
    have HI0 := Lib.hid (And.intro hle2 (And.intro hC2 HB2.out))
    clear hle2 hC2
    go_loopw [5, 6] (fun s5 s6 wr => ∃ (i : Nat) (A : Option Addr) (n : Nat), i ≤ l1.length ∧ s6 = .int .i64 i ∧ s5 = .slice A (refApplyL l0 (l1.take i)).length n ∧ Hid ((refApplyL l0 (l1.take i)).length ≤ n ∧ Kd.C k47 wr A (refApplyL l0 (l1.take i)).length (refApplyL l0 (l1.take i)) ∧ Below w.heap.size w wr)) (fun _ s6 _ => l1.length - (intOf s6).toNat)
    case atStart => exact ⟨0, A2, n2, Nat.zero_le _, rfl, rfl, HI0⟩
    case round =>
      obtain ⟨i, A, n, hi, rfl, rfl, HI⟩ := hrel
      by_cases hlt : i < l1.length
      · obtain ⟨hle, hC, hb⟩ := HI.out
        obtain ⟨hr0, hr1, hn0, hn1, hs1, hc0, hc1⟩ := HX.out
        have hbig := HBig.out
        have hz := refApply_bound l0 l1 i hi hbig
        have hcn : (rd_T53 l1 (i : Nat)).f0.f2.size ≤ maxLen := hn1 _ (by unfold rd_T53; simp [List.getD, hlt])
        have hcv : (rd_T53 l1 (i : Nat)).f1.length < 140737488355328 := hs1 _ (by unfold rd_T53; simp [List.getD, hlt])
        have hcur : ∀ x ∈ refApplyL l0 (l1.take i), x.f0.f2.size ≤ maxLen := fun x hx => by
          rcases mem_refApply _ _ x hx with h | ⟨c, hc, rfl⟩
          · exact hn0 x h
          · exact hn1 c (List.mem_of_mem_take hc)
        have hnext : refApplyL l0 (l1.take (i + 1)) = oneL (rd_T53 l1 (i : Nat)) (rd_T53 l1 (i : Nat)).f2 (refApplyL l0 (l1.take i)) := by
          have hrd : rd_T53 l1 (i : Nat) = l1[i] := by unfold rd_T53; simp [List.getD, hlt]
          rw [List.take_add_one, List.getElem?_eq_getElem hlt, hrd]
          simp only [Option.toList]
          rw [refApply_snoc]
        obtain ⟨ad, A4, c4, hA, h0, h1, h2, h3, h4, h5, h6, h7⟩ := at_T53 (Kd.C_below hr1 hb) (i : Nat) (by omega) (by omega)
        subst hA
        simp only [Int.toNat_natCast] at h0 h1 h2 h3 h4 h5
        generalize rd_T53 l1 (i : Nat) = c at *
        have ci0 : (0 : Int) ≤ (i : Int) := by omega
        have ci1 : (i : Int) < (l1.length : Int) := by omega
        have HN := Lib.hid hnext
        have HC := Lib.hid (one_any A n (refApplyL l0 (l1.take i)) c A4 c4 wr hC hle h7 h6 hcur hcn hz hcv)
        have HBw := Lib.hid hb
        clear hle hC hb hr0 hr1 hn0 hn1 hs1 hc0 hc1 hbig hcn hcv hcur hnext h6 h7 hz
        generalize refApplyL l0 (l1.take i) = cur at *
        go_wp2_with fail
        refine HC.out.mono ?_
        rintro e w4 ⟨A5, n5, rfl, hle5, hC5, hb5⟩
        have HJ := Lib.hid (And.intro hle5 (And.intro hC5 hb5))
        clear hle5 hC5 hb5 h0 h1 h2 h3 h4 h5
        go_wp2
        go_roundw
        case rel =>
          refine ⟨i + 1, A5, n5, hlt, by go_num, ?_, ?_⟩
          · rw [HN.out]
          · rw [HN.out]; exact Lib.hid ⟨HJ.out.1, HJ.out.2.1, HBw.out.trans (HJ.out.2.2.mono HBw.out.size)⟩
        case measure => simp [intOf]; omega
      · obtain rfl : i = l1.length := by omega
        rw [List.take_length] at HI ⊢
        go_wp2
        go_ret
        unfold RefApplyEnd
        rw [HE.out]
        exact ⟨A, n, rfl, HI.out.1, HI.out.2.1, HI.out.2.2⟩
end Go.Proofs.Ytbhmncenbpdcjaa.P
end
section
/- The document's changes and finding, on facts in order, are the program's: plain. -/
namespace Go.Proofs.Ytbhmncenbpdcjaa.P
open Go.RowKit Go.Proofs.YtbhmncenbpdcjaaW.PrintWords Go.Proofs.YtbhmncenbpdcjaaW.PrintLast Go.Proofs.YtbhmncenbpdcjaaW.PrintMore
theorem cntB_cons (x : F) (l : List F) (k : K) : cntB (x :: l) k = if bef x.f0 k then cntB l k + 1 else 0 := by
  unfold cntB
  rw [List.takeWhile_cons]
  split <;> simp
theorem isB_nil (k : K) : isB [] k = false := rfl
theorem isB_cons (x : F) (l : List F) (k : K) : isB (x :: l) k = if bef x.f0 k then isB l k else keyQ x.f0 k := by
  unfold isB
  rw [cntB_cons]
  split
  · by_cases h : cntB l k < l.length
    · rw [if_pos h, if_pos (by simp; omega), rd_nat _ _ (by simp; omega), rd_nat _ _ h]; rfl
    · rw [if_neg h, if_neg (by simp; omega)]
  · rw [if_pos (by simp), rd_nat _ _ (by simp)]; rfl
theorem bef_not_key {a b : K} (h : bef a b = true) : keyQ a b = false ∧ bef b a = false ∧ keyQ b a = false := by
  have h1 : keyQ a b = false := by
    cases hq : keyQ a b with
    | false => rfl
    | true =>
      rw [(keyQ_iff a b).1 hq, bef_self] at h
      cases h
  refine ⟨h1, ?_, ?_⟩
  · cases hb : bef b a with
    | false => rfl
    | true =>
      have := bef_trans h hb
      rw [bef_self] at this
      cases this
  · cases hq : keyQ b a with
    | false => rfl
    | true =>
      rw [(keyQ_iff b a).1 hq, bef_self] at h
      cases h
theorem oneL_true (c : Ch) : ∀ (l : List F), (∀ y ∈ l, keyQ y.f0 c.f0 = false) → oneL c true l = l
  | [], _ => rfl
  | y :: l, h => by
    unfold oneL
    rw [h y (by simp), oneL_true c l fun z hz => h z (by simp [hz])]
    simp
theorem oneL_step (c : Ch) : ∀ (l : List F), Ord l → oneL c c.f2 l = stepB l c
  | [], _ => by
    unfold oneL stepB
    rw [isB_nil]
    cases c.f2 <;> rfl
  | x :: l, h => by
    have hx : ∀ y ∈ l, bef x.f0 y.f0 = true := (List.pairwise_cons.1 h).1
    have hl : Ord l := (List.pairwise_cons.1 h).2
    unfold oneL stepB
    rw [isB_cons, cntB_cons]
    cases hb : bef x.f0 c.f0 with
    | true =>
      obtain ⟨hk, hb2, _⟩ := bef_not_key hb
      rw [hk, hb2]
      have ih := oneL_step c l hl
      unfold stepB at ih
      simp only [Bool.and_false, Bool.false_eq_true, if_false, if_true]
      rw [ih]
      cases isB l c.f0 <;> cases c.f2 <;> simp
    | false =>
      cases hk : keyQ x.f0 c.f0 with
      | true =>
        have hxk : x.f0 = c.f0 := (keyQ_iff _ _).1 hk
        have ht : oneL c true l = l := oneL_true c l fun y hy => by
          have := hx y hy
          rw [hxk] at this
          exact (bef_not_key this).2.2
        rw [ht]
        cases c.f2 <;> simp
      | false =>
        have hb2 : bef c.f0 x.f0 = true := bef_other hb hk
        have ht : oneL c true l = l := oneL_true c l fun y hy => (bef_not_key (bef_trans hb2 (hx y hy))).2.2
        rw [hb2]
        cases hg : c.f2 <;> simp [ht]
theorem refApply_eq : ∀ (cs : List Ch) (l : List F), Ord l → refApplyL l cs = applyB l cs
  | [], l, _ => rfl
  | c :: cs, l, h => by
    show refApplyL (oneL c c.f2 l) cs = applyB (stepB l c) cs
    rw [oneL_step c l h]
    exact refApply_eq cs _ (ord_step l c h)
theorem refFind_none (k : K) : ∀ (l : List F), (∀ y ∈ l, keyQ y.f0 k = false) → refFind k l = ([], false)
  | [], _ => rfl
  | y :: l, h => by
    unfold refFind
    rw [h y (by simp), refFind_none k l fun z hz => h z (by simp [hz])]
    rfl
theorem refFind_eq (k : K) : ∀ (l : List F), Ord l → refFind k l = (if isB l k then (rd_T47 l (cntB l k : Nat)).f1 else [], isB l k)
  | [], _ => rfl
  | x :: l, h => by
    have hx : ∀ y ∈ l, bef x.f0 y.f0 = true := (List.pairwise_cons.1 h).1
    have hl : Ord l := (List.pairwise_cons.1 h).2
    unfold refFind
    rw [isB_cons, cntB_cons]
    cases hb : bef x.f0 k with
    | true =>
      rw [(bef_not_key hb).1]
      have ih := refFind_eq k l hl
      simp only [if_true, Bool.false_eq_true, if_false]
      rw [ih]
      cases hi : isB l k with
      | false => rfl
      | true =>
        obtain ⟨hlt, _⟩ := isB_at hi
        simp only [if_true]
        rw [rd_nat _ _ hlt, rd_nat _ _ (by simp; omega)]
        rfl
    | false =>
      cases hk : keyQ x.f0 k with
      | true => rw [if_pos rfl]; simp only [if_true, Bool.false_eq_true, if_false]; rw [rd_nat _ _ (by simp)]; rfl
      | false =>
        simp only [Bool.false_eq_true, if_false]
        exact refFind_none k l fun y hy => (bef_not_key (bef_trans (bef_other hb hk) (hx y hy))).2.2
theorem refFind_findB (l : List F) (k : K) : (if ordB l then refFind k l else ([], false)) = (findB l k, ordB l && isB l k) := by
  unfold findB
  cases ho : ordB l with
  | false => rfl
  | true =>
    rw [if_pos rfl, refFind_eq k l ((ordB_iff l).1 ho)]
    simp
/-- What Apply answers. -/
def applyF (l : List F) (cs : List Ch) : List F := if ordB l then applyB l cs else []
theorem refApply_applyF (l : List F) (cs : List Ch) : (if ordB l then refApplyL l cs else []) = applyF l cs := by
  unfold applyF
  cases ho : ordB l with
  | false => rfl
  | true => rw [if_pos rfl, if_pos rfl, refApply_eq cs l ((ordB_iff l).1 ho)]
theorem mem_stepB (l : List F) (c : Ch) (x : F) (h : x ∈ stepB l c) : x = ⟨c.f0, c.f1⟩ ∨ x ∈ l := by
  unfold stepB at h
  split at h <;> split at h
  · exact .inr (List.mem_of_mem_eraseIdx h)
  · rcases List.mem_or_eq_of_mem_set h with h | h
    · exact .inr h
    · exact .inl h
  · exact .inr h
  · by_cases hc : cntB l c.f0 ≤ l.length
    · rcases (List.mem_insertIdx hc).1 h with h | h
      · exact .inl h
      · exact .inr h
    · exact absurd (cntB_le _ _) hc
theorem mem_applyB : ∀ (cs : List Ch) (l : List F) (x : F), x ∈ applyB l cs → x ∈ l ∨ ∃ c ∈ cs, x = ⟨c.f0, c.f1⟩
  | [], l, x, h => .inl h
  | c :: cs, l, x, h => by
    rcases mem_applyB cs (stepB l c) x h with h | ⟨d, hd, h⟩
    · rcases mem_stepB l c x h with h | h
      · exact .inr ⟨c, by simp, h⟩
      · exact .inl h
    · exact .inr ⟨d, by simp [hd], h⟩
theorem mem_applyF (l : List F) (cs : List Ch) (x : F) (h : x ∈ applyF l cs) : x ∈ l ∨ ∃ c ∈ cs, x = ⟨c.f0, c.f1⟩ := by
  unfold applyF at h
  split at h
  · exact mem_applyB cs l x h
  · cases h
theorem applyF_length (l : List F) (cs : List Ch) : (applyF l cs).length ≤ l.length + cs.length := by
  unfold applyF
  split
  · exact apply_length cs l
  · simp
end Go.Proofs.Ytbhmncenbpdcjaa.P
end
section
/- Rows of the call's own: what append does to them, what they read as. Of no program, but for the last lines. -/
namespace Go.Proofs.Ytbhmncenbpdcjaa
open Go.RowKit

/-- These cells stand at an address (or nowhere, where there are none). -/
def Src (w : World) (A : Option Addr) (news : List Value) : Prop := ∀ j u, news[j]? = some u → ∃ ad, A = some ad ∧ w.cell? (ad.add j) = some u
theorem Src.below {w w' : World} {A : Option Addr} {news : List Value} (h : Src w A news) (hb : Below w.heap.size w w') : Src w' A news := fun j u hu => by
  obtain ⟨ad, e, hc⟩ := h j u hu
  exact ⟨ad, e, cell_below hb hc⟩
theorem Src.grown {w w' : World} {A : Option Addr} {news : List Value} (h : Src w A news) {r : Option Nat} (hg : w.grownBy w' r) (hne : ∀ ad, A = some ad → some ad.block ≠ r) : Src w' A news := fun j u hu => by
  obtain ⟨ad, e, hc⟩ := h j u hu
  have hb : (ad.add j).block = ad.block := by unfold Addr.add; split <;> rfl
  exact ⟨ad, e, hg.cell hc (by rw [hb]; exact hne ad e)⟩
theorem Src.new (w : World) (cs : List Value) (t : TypeId) : Src (w.alloc (.cells cs.toArray t)) (some ⟨w.heap.size, 0, none⟩) cs := fun j u hu => by
  refine ⟨_, rfl, ?_⟩
  have ha : (⟨w.heap.size, 0, none⟩ : Addr).add j = ⟨w.heap.size, j, none⟩ := by unfold Addr.add; split <;> simp_all
  rw [ha]
  simp only [World.cell?, heap_alloc_new w _]
  simpa using hu

/-- What append has come to. -/
structure App (P : Program) (w : World) (base : Nat) (E : TypeId) (size : Nat) (v : Value) (n m : Nat) (xs : List Value) (v' : Value) (w' : World) : Prop where
  own : w'.ownsRow base E size v' (n + m) xs
  grown : w.grownBy w' v.ownBlock
  at_ : v'.ownBlock = v.ownBlock ∨ v'.ownBlock = some w.heap.size

theorem run_app {P : Program} (w : World) {base : Nat} {t E : TypeId} {z : Value} {size bytes : Nat} (ty : TypeId) (ht : P.underlying t = some (.slice E)) (hinfo : (P.info? E).map (fun i => (i.zero, i.size, i.bytes)) = some (some z, size, bytes)) (hzs : z.cells.size = size) (hsz : 0 < size)
    {v : Value} {n : Nat} {xs : List Value} (hown : w.ownsRow base E size v n xs) {A : Option Addr} {m : Nat} (c : Nat) {news : List Value} (hl : news.length = m * size) (hs : Src w A news) (h1 : ∀ u ∈ news, u.oneCell' = true)
    (hbytes : (n + m) * bytes ≤ 140737488355328) (h63 : n + m ≤ 140737488355328) (hbase : base ≤ w.heap.size) :
    ∃ v' w', (Builtin.append_ #[t, t] ty #[v, .slice A m c]).run P w = .ok v' w' ∧ App P w base E size v n m (xs ++ news) v' w' := by
  obtain ⟨i, hi, hz, hsize, hby⟩ := info_parts hinfo
  rcases A with _ | ad
  · have hn : news = [] := by
      cases hnn : news with
      | nil => rfl
      | cons u r => obtain ⟨ad, e, _⟩ := hs 0 u (by rw [hnn]; rfl); cases e
    subst hn
    obtain rfl : m = 0 := by
      have : m * size = 0 := by simpa using hl.symm
      rcases Nat.mul_eq_zero.1 this with h | h
      · exact h
      · omega
    refine ⟨v, w, ?_, by simpa using hown, World.grownBy.refl w _, .inl rfl⟩
    rcases hown.2 with ⟨rfl, rfl⟩ | ⟨g, cap, cur, rfl, _, _, hnc, _⟩
    · simp [Builtin.append_, run_underlying ht, sizeOf, typeInfo, hi, Builtin.lenOf, Builtin.firstCells]
    · simp [Builtin.append_, run_underlying ht, sizeOf, typeInfo, hi, Builtin.lenOf, Builtin.firstCells, hnc, storeCells]
  · obtain ⟨v', w', hrun, h2, h3, _, h5⟩ := run_append_own_at (P := P) w base t ty E i z size bytes ht hi hz hsize hby hzs hsz v n xs hown ad m c news hl
      (fun j u hu => by obtain ⟨ad', e, hc⟩ := hs j u hu; cases e; exact hc) h1 (by simp only [maxLen]; omega) hbytes hbase
    exact ⟨v', w', hrun, h2, h3, h5⟩

theorem wpList_app {P : Program} {w : World} {ops : Array Oper} {rest : List Oper} {o : Oper} {a : Act} {Q : Exit → Act → World → Prop} (hgd : o.guard = none) {s x : Operand} {t : TypeId}
    (ho : o.op = .call { callee := .builtin .append, args := #[s, x], argTypes := #[t, t] })
    {base : Nat} {E : TypeId} {z : Value} {size bytes : Nat} (ht : P.underlying t = some (.slice E)) (hinfo : (P.info? E).map (fun i => (i.zero, i.size, i.bytes)) = some (some z, size, bytes)) (hzs : z.cells.size = size) (hsz : 0 < size)
    {v : Value} {n : Nat} {xs : List Value} (hs : a.eval s = v) (hown : w.ownsRow base E size v n xs) {A : Option Addr} {m c : Nat} {news : List Value} (hx : a.eval x = .slice A m c) (hl : news.length = m * size) (hsrc : Src w A news) (h1 : ∀ u ∈ news, u.oneCell' = true)
    (hbytes : (n + m) * bytes ≤ 140737488355328) (h63 : n + m ≤ 140737488355328) (hbase : base ≤ w.heap.size)
    (h : ∀ v' w', App P w base E size v n m (xs ++ news) v' w' → wpList P ops Q rest (a.put o.dst v') w') : wpList P ops Q (o :: rest) a w := by
  obtain ⟨v', w', hrun, happ⟩ := run_app (P := P) w o.type ht hinfo hzs hsz hown c hl hsrc h1 hbytes h63 hbase
  refine wpList_plain hgd fun _ hK => ?_
  unfold Oper.wp execOp
  simp only [ho, resolve, invoke, builtin, Sem.run_bind, Sem.run_pure, Result.andThen_ok, List.map_toArray, List.map_cons, List.map_nil, hs, hx, hrun]
  exact hK _ _ (h v' w' happ)

theorem own_base {w : World} {base : Nat} {e : TypeId} {size n : Nat} {v : Value} {xs : List Value} (h : w.ownsRow base e size v n xs) (k : Nat) (hk : v.ownBlock = some k) : base ≤ k := (h.lt k hk).1
theorem App.below {P : Program} {w w0 : World} {base : Nat} {E : TypeId} {size : Nat} {v : Value} {n m : Nat} {xs : List Value} {v' : Value} {w' : World} (h : App P w base E size v n m xs v' w') {ys : List Value} (hown : w.ownsRow base E size v n ys) (hb : Below base w0 w) (hbase : base ≤ w.heap.size) : Below base w0 w' :=
  hb.grown h.grown hbase (fun k hk => own_base hown k hk)
theorem grown_of_below {w w1 : World} (h : Below w.heap.size w w1) {row : Option Nat} : w.grownBy w1 row := ⟨h.os, h.tape, h.output, h.size, fun i hi _ => h.block i hi⟩
theorem own_ne {w : World} {base B : Nat} {e : TypeId} {size n : Nat} {v : Value} {xs : List Value} (h : w.ownsRow base e size v n xs) (hB : w.heap.size ≤ B) (r : Option Nat) (hr : ∀ k, r = some k → B ≤ k) : v.ownBlock = none ∨ v.ownBlock ≠ r := by
  cases hv : v.ownBlock with
  | none => exact .inl rfl
  | some k =>
    refine .inr fun e => ?_
    have := (h.lt k hv).2
    have := hr k e.symm
    omega
theorem own_slice {w : World} {base n : Nat} {e : TypeId} {size : Nat} {v : Value} {xs : List Value} (h : w.ownsRow base e size v n xs) : ∃ A c, v = .slice A n c ∧ Src w A xs := by
  rcases h.2 with ⟨rfl, rfl⟩ | ⟨g, cap, cur, rfl, _⟩
  · refine ⟨none, 0, rfl, fun j u hu => ?_⟩
    have : xs = [] := List.eq_nil_of_length_eq_zero (by simpa using h.1)
    subst this; simp at hu
  · exact ⟨_, cap, rfl, fun j u hu => ⟨_, rfl, h.cells rfl j u hu⟩⟩

/-- Bytes as cells. -/
def vals (l : List UInt8) : List Value := l.map fun b => .int .u8 (b.toNat : Int)
theorem vals_length (l : List UInt8) : (vals l).length = l.length := by simp [vals]
theorem vals_append (a b : List UInt8) : vals (a ++ b) = vals a ++ vals b := by simp [vals]
theorem vals_one (l : List UInt8) : ∀ u ∈ vals l, u.oneCell' = true := fun u hu => by
  simp only [vals, List.mem_map] at hu
  obtain ⟨b, _, rfl⟩ := hu
  rfl
theorem Bs.src {w : World} {A : Option Addr} {l : List UInt8} (h : Bs w A l) : Src w A (vals l) := fun j u hu => by
  simp only [vals, List.getElem?_map, Option.map_eq_some_iff] at hu
  obtain ⟨b, hb, rfl⟩ := hu
  obtain ⟨hj, rfl⟩ := List.getElem?_eq_some_iff.1 hb
  exact h.cell j hj
theorem Bs.of_src {w : World} {A : Option Addr} {l : List UInt8} (hs : l.length ≤ 140737488355328) (h : Src w A (vals l)) : Bs w A l :=
  ⟨hs, fun j hj => h j _ (by simp [vals, hj])⟩
/-- Bytes of the call's own. -/
def OwnB (w : World) (base : Nat) (v : Value) (l : List UInt8) : Prop := w.ownsRow base 5 1 v l.length (vals l)
theorem OwnB.nil (w : World) (base : Nat) : OwnB w base (.slice none 0 0) [] := World.ownsRow_nil _ _ _ _
theorem OwnB.bs {w : World} {base : Nat} {v : Value} {l : List UInt8} (hs : l.length ≤ 140737488355328) (h : OwnB w base v l) : ∃ A c, v = .slice A l.length c ∧ Bs w A l := by
  obtain ⟨A, c, rfl, hsrc⟩ := own_slice h
  exact ⟨A, c, rfl, .of_src hs hsrc⟩
theorem own_mono {w : World} {b b' : Nat} {e : TypeId} {size n : Nat} {v : Value} {xs : List Value} (h : w.ownsRow b e size v n xs) (hb : b' ≤ b) : w.ownsRow b' e size v n xs := by
  refine ⟨h.1, ?_⟩
  rcases h.2 with h2 | ⟨g, cap, cur, e1, e2, r⟩
  · exact .inl h2
  · exact .inr ⟨g, cap, cur, e1, Nat.le_trans hb e2, r⟩
theorem OwnB.below_base {w : World} {b b' : Nat} {v : Value} {l : List UInt8} (h : OwnB w b v l) (hb : b' ≤ b) : OwnB w b' v l := own_mono h hb
theorem info_u8 : (Try.prog.info? 5).map (fun i => (i.zero, i.size, i.bytes)) = some (some (.int .u8 0), 1, 1) := by kernel_rfl
theorem OwnB.lit (w : World) (base : Nat) (l : List UInt8) (hb : base ≤ w.heap.size) (hl : l.length ≤ 1000) : OwnB (w.alloc (.cells (vals l).toArray 5)) base (.slice (some ⟨w.heap.size, 0, none⟩) l.length l.length) l := by
  have := World.ownsRow_lit (e := 5) (size := 1) w (vals l).toArray l.length hb (by simp only [maxLen]; omega) (by simp [vals])
  simpa [OwnB] using this
end Go.Proofs.Ytbhmncenbpdcjaa
end
section
/- A key's bytes: what the program's PutKey and the document's compute. -/
namespace Go.Proofs.Ytbhmncenbpdcjaa
open Go.RowKit

theorem isSize_two (w : World) : Calls Try.prog 46 #[.int .i64 2] w fun e w' => e = .returned (.bool true) ∧ w = w' := by
  go_enter Try.func46, Try.ntmps46
  go_wp2
  go_ret
  exact ⟨rfl, rfl⟩
def lo (n : Int) : UInt8 := UInt8.ofNat (n.toNat % 256)
def hi (n : Int) : UInt8 := UInt8.ofNat (n.toNat / 256)
theorem lo_int {n : Int} (h0 : 0 ≤ n) : ((lo n).toNat : Int) = n % 256 := by unfold lo; simp; omega
theorem hi_int {n : Int} (h0 : 0 ≤ n) (h : n ≤ 65535) : ((hi n).toNat : Int) = n / 256 := by unfold hi; simp; omega

/-- Two bytes of a number, in new memory, and no more. -/
def Put2End (n : Int) (w : World) (e : Ending) (w' : World) : Prop := e = .returned (.tuple #[.slice (some ⟨w.heap.size, 0, none⟩) 2 2, .int .i64 0]) ∧ w' = w.alloc (.cells (vals [lo n, hi n]).toArray 5)
set_option maxHeartbeats 400000 in
theorem put_two (n : Int) (h0 : 0 ≤ n) (h1 : n ≤ 65535) (w : World) : Calls Try.prog 51 #[.int .u64 n, .int .i64 2] w (Put2End n w) := by
  have hmk : ∀ w, (Instr.makeSlice 22 (.int .i64 2) (.int .i64 2)).run Try.prog w = .ok (.slice (some ⟨w.heap.size, 0, none⟩) 2 2) (w.alloc (.cells #[.int .u8 0, .int .u8 0] 5)) := fun _ => by kernel_rfl
  have t : (n / 65536 != 0) = false := by simp; omega
  have HB : Hid (IntKind.u8.wrap (n / 256) = n / 256) := IntWalk.u8_in _ (by omega)
  have HV : Hid (vals [lo n, hi n] = [.int .u8 (n % 256), .int .u8 (n / 256)]) := by
    show vals [lo n, hi n] = _
    simp [vals, lo_int h0, hi_int h0 h1]
  go_enter Try.func51, Try.ntmps51
  go_wp2_with fail
  refine (isSize_two _).mono ?_
  rintro e w' ⟨rfl, rfl⟩
  go_wp2
  go_loopg [27] 2 (fun k i wr => (i = .int .i64 0 ∧ k = 2 ∧ wr = w.alloc (.cells #[.int .u8 0, .int .u8 0] 5)) ∨ (i = .int .i64 1 ∧ k = 1 ∧ wr = w.alloc (.cells #[.int .u8 (n % 256), .int .u8 0] 5)) ∨ (i = .int .i64 2 ∧ k = 0 ∧ wr = w.alloc (.cells #[.int .u8 (n % 256), .int .u8 (n / 256)] 5)))
  case atStart => exact .inl ⟨rfl, rfl, rfl⟩
  case round =>
    rcases hrel with ⟨rfl, rfl, rfl⟩ | ⟨rfl, rfl, rfl⟩ | ⟨rfl, rfl, rfl⟩
    · go_wp2
      go_roundg 1
      case measure => omega
      case rel => exact .inr (.inl ⟨rfl, rfl, rfl⟩)
    · go_wp2
      go_roundg 0
      case measure => omega
      case rel => exact .inr (.inr ⟨rfl, rfl, by first | rfl | (rw [HB.out])⟩)
    · go_wp2
      go_ret2
      exact ⟨rfl, by rw [← HV.out]⟩

def BytesEnd (l : List UInt8) (w : World) (e : Ending) (w' : World) : Prop := ∃ v, e = .returned (.tuple #[v, .int .i64 0]) ∧ OwnB w' w.heap.size v l ∧ Below w.heap.size w w'
theorem len_byte {n : Nat} (h : n ≤ 255) : ((UInt8.ofNat n).toNat : Int) = n := by simp; omega

set_option maxHeartbeats 400000 in
theorem row_any (l : List UInt8) (n : Nat) (hn : l.length = n) (hl : n ≤ 255) (A : Option Addr) (c : Nat) (w : World) (hA : Bs w A l) : Calls Try.prog 52 #[.slice A n c] w (BytesEnd (UInt8.ofNat n :: l) w) := by
  subst hn
  have hlt : w.heap.size ≤ w.heap.size := Nat.le_refl _
  have wl : IntKind.u8.wrap (l.length : Int) = (l.length : Int) := IntWalk.u8_in _ (by omega)
  have own0 := OwnB.lit w w.heap.size [UInt8.ofNat l.length] hlt (by simp)
  have hv : vals [UInt8.ofNat l.length] = [.int .u8 (l.length : Int)] := by simp [vals]; omega
  rw [hv] at own0
  have src := hA.src.below (below_alloc1 w (.cells #[.int .u8 (l.length : Int)] 5))
  go_enter Try.func52, Try.ntmps52
  go_wp2_with (at_builtin; refine wpList_app rfl rfl Try.underlying22 info_u8 rfl (by omega) rfl own0 rfl (by simp [vals]) src (vals_one _) (by simp; omega) (by simp; omega) (by simp) ?_; intro v1 w1 happ)
  go_ret2
  refine ⟨v1, rfl, ?_, happ.below own0 (below_alloc1 _ _) (by simp)⟩
  have := happ.own
  simpa [OwnB, vals, Nat.add_comm] using this

/-- As above, the memory not named. -/
theorem put_bytes (n : Int) (h0 : 0 ≤ n) (h1 : n ≤ 65535) (w : World) : Calls Try.prog 51 #[.int .u64 n, .int .i64 2] w (BytesEnd [lo n, hi n] w) :=
  (put_two n h0 h1 w).mono fun e w' ⟨he, hw⟩ => by
    subst hw
    exact ⟨_, he, OwnB.lit w _ [lo n, hi n] (Nat.le_refl _) (by simp), below_alloc1 _ _⟩
theorem one_byte {u : Int} (h0 : 0 ≤ u) (h1 : u ≤ 255) : vals [UInt8.ofNat u.toNat] = [.int .u8 u] := by simp [vals]; omega
/-- One byte more. -/
theorem OwnB.app {P : Program} {w w' : World} {base : Nat} {v v' : Value} {l r : List UInt8} {n m : Nat} (h : App P w base 5 1 v n m (vals l ++ vals r) v' w') (hn : n = l.length) (hm : m = r.length) : OwnB w' base v' (l ++ r) := by
  subst hn hm
  have := h.own
  simpa [OwnB, vals] using this

/-- A key's bytes. -/
def keyTail (u : Int) (s : ByteArray) (c : Int) : List UInt8 := if u = 2 then UInt8.ofNat s.size :: s.data.toList else if u = 3 then [UInt8.ofNat c.toNat] else []
def keyBytes (i u : Int) (s : ByteArray) (c : Int) : List UInt8 := [lo i, hi i, UInt8.ofNat u.toNat] ++ keyTail u s c
def KeyEnd (ok : Bool) (l : List UInt8) (w : World) (e : Ending) (w' : World) : Prop :=
  (ok = false ∧ e = .returned (.tuple #[.slice none 0 0, .int .i64 2]) ∧ Below w.heap.size w w') ∨ (ok = true ∧ BytesEnd l w e w')

theorem keyBox_cells (w : World) (i u : Int) (s : ByteArray) (c : Int) :
    (w.alloc (.cells #[.int .i64 i, .int .u8 u, .string s, .int .i64 c] 30)).cell? ⟨w.heap.size, 0, none⟩ = some (.int .i64 i) ∧ (w.alloc (.cells #[.int .i64 i, .int .u8 u, .string s, .int .i64 c] 30)).cell? ⟨w.heap.size, 1, none⟩ = some (.int .u8 u) ∧ (w.alloc (.cells #[.int .i64 i, .int .u8 u, .string s, .int .i64 c] 30)).cell? ⟨w.heap.size, 2, none⟩ = some (.string s) ∧ (w.alloc (.cells #[.int .i64 i, .int .u8 u, .string s, .int .i64 c] 30)).cell? ⟨w.heap.size, 3, none⟩ = some (.int .i64 c) := by
  refine ⟨by go_simp, by go_simp, by go_simp, by go_simp⟩

set_option maxHeartbeats 400000 in
theorem putKey_no (i u : Int) (s : ByteArray) (c : Int) (hs : s.size ≤ maxLen) (h : mayKey i u s c = false) (w : World) :
    Calls Try.prog 33 #[.agg #[.int .i64 i, .int .u8 u, .string s, .int .i64 c]] w (KeyEnd (mayKey i u s c) (keyBytes i u s c) w) := by
  rw [h]
  have C := fun w => h ▸ mayKey_any i u s c hs w
  have HC := Lib.hid C
  clear C h
  go_enter Try.func33, Try.ntmps33
  go_wp2_with fail
  refine (HC.out _).mono ?_
  rintro e w1 ⟨rfl, hb⟩
  have hb1 := below_of (below_alloc1 w (.cells #[.int .i64 i, .int .u8 u, .string s, .int .i64 c] 30)) hb
  clear hb
  go_wp2
  go_ret2
  exact .inl ⟨rfl, rfl, hb1⟩

theorem mayKey_what {i u c : Int} {s : ByteArray} (h : mayKey i u s c = true) : (1 ≤ i ∧ i ≤ 65535) ∧ (u = 1 ∨ (u = 2 ∧ nameB s = true) ∨ (u = 3 ∧ 0 ≤ c ∧ c < 8)) := by
  unfold mayKey at h
  simp only [Bool.and_eq_true, decide_eq_true_eq] at h
  refine ⟨⟨h.1.1, h.1.2⟩, ?_⟩
  by_cases u1 : u = 1
  · exact .inl u1
  · by_cases u2 : u = 2
    · subst u2
      have := h.2
      simp at this
      exact .inr (.inl ⟨rfl, this.1⟩)
    · by_cases u3 : u = 3
      · subst u3
        have := h.2
        simp at this
        exact .inr (.inr ⟨rfl, this.1.2, this.2⟩)
      · have := h.2
        simp [u1, u2, u3] at this
theorem nameB_size {s : ByteArray} (h : nameB s = true) : s.size ≤ 12 := by
  unfold nameB at h
  simp only [Bool.and_eq_true, decide_eq_true_eq] at h
  exact h.1.1.2
/-- A string as new bytes. -/
theorem bytesWorld_bs (w : World) (s : ByteArray) (hs : s.size ≤ 140737488355328) : Bs (Lib.bytesWorld w 5 s) (some ⟨w.heap.size, 0, none⟩) s.data.toList :=
  ⟨by simpa using hs, fun j hj => ⟨_, rfl, by
    have ha : (⟨w.heap.size, 0, none⟩ : Addr).add j = ⟨w.heap.size, j, none⟩ := by unfold Addr.add; split <;> simp_all
    rw [ha, Lib.bytesWorld_cell w 5 s j (by simpa using hj)]
    have hk : j < s.data.size := by simpa using hj
    simp only [List.getD, Array.getElem?_toList, Array.getElem_toList]
    rw [Array.getElem?_eq_getElem hk]
    rfl⟩⟩
theorem bytesWorld_below {B : Nat} {w0 w : World} (h : Below B w0 w) (hB : B ≤ w.heap.size) (s : ByteArray) : Below B w0 (Lib.bytesWorld w 5 s) :=
  h.trans ⟨by unfold Lib.bytesWorld World.freeze; simp; rfl, by unfold Lib.bytesWorld World.freeze; simp, by unfold Lib.bytesWorld World.freeze; simp; rfl, by rw [Lib.bytesWorld_size]; omega, fun k hk => Lib.bytesWorld_at_old w 5 s k (by omega)⟩

set_option maxRecDepth 100000 in
set_option maxHeartbeats 1000000 in
theorem putKey_node (i : Int) (s : ByteArray) (c : Int) (hs : s.size ≤ maxLen) (h : mayKey i 1 s c = true) (w : World) :
    Calls Try.prog 33 #[.agg #[.int .i64 i, .int .u8 1, .string s, .int .i64 c]] w (BytesEnd (keyBytes i 1 s c) w) := by
  have HC := Lib.hid (fun w => h ▸ mayKey_any i 1 s c hs w)
  obtain ⟨⟨i1, i2⟩, hw⟩ := mayKey_what h
  have wi : IntKind.u64.wrap i = i := IntWalk.u64_in _ (by omega)
  clear h hw
  go_enter Try.func33, Try.ntmps33
  go_wp2_with fail
  refine (HC.out _).mono ?_
  rintro e w1 ⟨rfl, hb⟩
  obtain ⟨a0, a1, a2, a3⟩ := keyBox_cells w i 1 s c
  have a0 := cell_below hb a0
  have A1 := Lib.hid (cell_below hb a1)
  have A2 := Lib.hid (cell_below hb a2)
  have A3 := Lib.hid (cell_below hb a3)
  have hb1 := below_of (below_alloc1 w (.cells #[.int .i64 i, .int .u8 1, .string s, .int .i64 c] 30)) hb
  have hz1 : w.heap.size < w1.heap.size := Nat.lt_of_lt_of_le (by simp) hb.size
  clear hb a1 a2 a3
  go_wp2_with fail
  refine (put_bytes i (by omega) i2 _).mono ?_
  rintro e w2 ⟨v2, rfl, own2, hb2⟩
  clear a0 HC
  have a1 := (hb2.cell hz1).trans A1.out
  obtain ⟨P2, c2, rfl, _⟩ := own_slice own2
  have own2' : OwnB (w2.alloc (.cells #[.int .u8 1] 5)) w1.heap.size (.slice P2 2 c2) [lo i, hi i] := World.ownsRow.alloc own2 _
  have src2 := Src.new w2 [.int .u8 1] 5
  have hz2 := hb2.size
  go_wp2_with (first
    | (at_builtin; refine wpList_app rfl rfl Try.underlying22 info_u8 rfl (by omega) rfl own2' rfl rfl src2 (by simp [Value.oneCell']) (by simp) (by simp) (by simp; omega) ?_; intro v3 w3 happ; have hb3 := happ.below own2' (hb2.alloc hb2.size _) (by simp; omega); have own3 : OwnB w3 w1.heap.size v3 [lo i, hi i, 1] := happ.own; clear happ src2 own2' a1; have a1 := (hb3.cell hz1).trans A1.out; have a2 := (hb3.cell hz1).trans A2.out; have a3 := (hb3.cell hz1).trans A3.out; have hz3 := hb3.size; obtain ⟨P3, c3, rfl, _⟩ := own_slice own3))
  go_ret2
  exact ⟨_, rfl, own_mono own3 hb1.size, hb1.trans (hb3.mono hb1.size)⟩

set_option maxRecDepth 100000 in
set_option maxHeartbeats 1000000 in
theorem putKey_entry (i : Int) (s : ByteArray) (c : Int) (hs : s.size ≤ maxLen) (h : mayKey i 2 s c = true) (w : World) :
    Calls Try.prog 33 #[.agg #[.int .i64 i, .int .u8 2, .string s, .int .i64 c]] w (BytesEnd (keyBytes i 2 s c) w) := by
  have HC := Lib.hid (fun w => h ▸ mayKey_any i 2 s c hs w)
  obtain ⟨⟨i1, i2⟩, hw⟩ := mayKey_what h
  have hn : nameB s = true := by rcases hw with h | ⟨_, h⟩ | ⟨h, _⟩ <;> first | exact h | omega
  have hs12 := nameB_size hn
  have wi : IntKind.u64.wrap i = i := IntWalk.u64_in _ (by omega)
  clear h hw
  go_enter Try.func33, Try.ntmps33
  go_wp2_with fail
  refine (HC.out _).mono ?_
  rintro e w1 ⟨rfl, hb⟩
  obtain ⟨a0, a1, a2, a3⟩ := keyBox_cells w i 2 s c
  have a0 := cell_below hb a0
  have A1 := Lib.hid (cell_below hb a1)
  have A2 := Lib.hid (cell_below hb a2)
  have A3 := Lib.hid (cell_below hb a3)
  have hb1 := below_of (below_alloc1 w (.cells #[.int .i64 i, .int .u8 2, .string s, .int .i64 c] 30)) hb
  have hz1 : w.heap.size < w1.heap.size := Nat.lt_of_lt_of_le (by simp) hb.size
  clear hb a1 a2 a3
  go_wp2_with fail
  refine (put_bytes i (by omega) i2 _).mono ?_
  rintro e w2 ⟨v2, rfl, own2, hb2⟩
  clear a0 HC
  have a1 := (hb2.cell hz1).trans A1.out
  obtain ⟨P2, c2, rfl, _⟩ := own_slice own2
  have own2' : OwnB (w2.alloc (.cells #[.int .u8 2] 5)) w1.heap.size (.slice P2 2 c2) [lo i, hi i] := World.ownsRow.alloc own2 _
  have src2 := Src.new w2 [.int .u8 2] 5
  have hz2 := hb2.size
  go_wp2_with (first
    | (at_builtin; refine wpList_app rfl rfl Try.underlying22 info_u8 rfl (by omega) rfl own2' rfl rfl src2 (by simp [Value.oneCell']) (by simp) (by simp) (by simp; omega) ?_; intro v3 w3 happ; have hb3 := happ.below own2' (hb2.alloc hb2.size _) (by simp; omega); have own3 : OwnB w3 w1.heap.size v3 [lo i, hi i, 2] := happ.own; clear happ src2 own2' a1; have a1 := (hb3.cell hz1).trans A1.out; have a2 := (hb3.cell hz1).trans A2.out; have a3 := (hb3.cell hz1).trans A3.out; have hz3 := hb3.size; obtain ⟨P3, c3, rfl, _⟩ := own_slice own3; have hcv := Lib.run_convert_string_bytes (P := Try.prog) w3 9 22 5 s Try.underlying9 Try.underlying22 Try.underlying5)
    | (go_at_call 52; refine (row_any s.data.toList s.size (by simp) (by omega) _ _ _ (bytesWorld_bs w3 s (by omega))).mono ?_; rintro e w4 ⟨v4, rfl, own4, hb4⟩; clear hcv a2; have hb34 : Below w3.heap.size w3 w4 := (bytesWorld_below (Below.refl _ w3) (Nat.le_refl _) s).trans (hb4.mono (by rw [Lib.bytesWorld_size]; omega)); have own3' : OwnB w4 w1.heap.size (.slice P3 3 c3) [lo i, hi i, 2] := World.ownsRow.kept own3 (grown_of_below hb34) (own_ne own3 (Nat.le_refl _) none (by intro k hk; cases hk)); have hb14 := hb3.trans (hb34.mono hz3); obtain ⟨P4, c4, rfl, src4⟩ := own_slice own4; clear a1 a3)
    | (at_builtin; refine wpList_app rfl rfl Try.underlying22 info_u8 rfl (by omega) rfl own3' rfl (by first | (simp [vals]; done) | (simp [vals]; omega)) src4 (vals_one _) (by simp; omega) (by simp; omega) hb14.size ?_; intro v5 w5 happ; have own5 := OwnB.app happ rfl (by simp); have hb5 := happ.below own3' hb14 hb14.size; clear happ own3' src4))
  go_ret2
  exact ⟨_, rfl, own_mono own5 hb1.size, hb1.trans (hb5.mono hb1.size)⟩

set_option maxRecDepth 100000 in
set_option maxHeartbeats 1000000 in
theorem putKey_piece (i : Int) (s : ByteArray) (c : Int) (hs : s.size ≤ maxLen) (h : mayKey i 3 s c = true) (w : World) :
    Calls Try.prog 33 #[.agg #[.int .i64 i, .int .u8 3, .string s, .int .i64 c]] w (BytesEnd (keyBytes i 3 s c) w) := by
  have HC := Lib.hid (fun w => h ▸ mayKey_any i 3 s c hs w)
  obtain ⟨⟨i1, i2⟩, hw⟩ := mayKey_what h
  have hc : 0 ≤ c ∧ c < 8 := by rcases hw with h | ⟨h, _⟩ | ⟨_, h⟩ <;> first | exact h | omega
  obtain ⟨c0, c8⟩ := hc
  have ho := Lib.hid (one_byte c0 (by omega))
  have wi : IntKind.u64.wrap i = i := IntWalk.u64_in _ (by omega)
  clear h hw
  go_enter Try.func33, Try.ntmps33
  go_wp2_with fail
  refine (HC.out _).mono ?_
  rintro e w1 ⟨rfl, hb⟩
  obtain ⟨a0, a1, a2, a3⟩ := keyBox_cells w i 3 s c
  have a0 := cell_below hb a0
  have A1 := Lib.hid (cell_below hb a1)
  have A2 := Lib.hid (cell_below hb a2)
  have A3 := Lib.hid (cell_below hb a3)
  have hb1 := below_of (below_alloc1 w (.cells #[.int .i64 i, .int .u8 3, .string s, .int .i64 c] 30)) hb
  have hz1 : w.heap.size < w1.heap.size := Nat.lt_of_lt_of_le (by simp) hb.size
  clear hb a1 a2 a3
  go_wp2_with fail
  refine (put_bytes i (by omega) i2 _).mono ?_
  rintro e w2 ⟨v2, rfl, own2, hb2⟩
  clear a0 HC
  have a1 := (hb2.cell hz1).trans A1.out
  obtain ⟨P2, c2, rfl, _⟩ := own_slice own2
  have own2' : OwnB (w2.alloc (.cells #[.int .u8 3] 5)) w1.heap.size (.slice P2 2 c2) [lo i, hi i] := World.ownsRow.alloc own2 _
  have src2 := Src.new w2 [.int .u8 3] 5
  have hz2 := hb2.size
  go_wp2_with (first
    | (at_builtin; refine wpList_app rfl rfl Try.underlying22 info_u8 rfl (by omega) rfl own2' rfl rfl src2 (by simp [Value.oneCell']) (by simp) (by simp) (by simp; omega) ?_; intro v3 w3 happ; have hb3 := happ.below own2' (hb2.alloc hb2.size _) (by simp; omega); have own3 : OwnB w3 w1.heap.size v3 [lo i, hi i, 3] := happ.own; clear happ src2 own2' a1; have a1 := (hb3.cell hz1).trans A1.out; have a2 := (hb3.cell hz1).trans A2.out; have a3 := (hb3.cell hz1).trans A3.out; have hz3 := hb3.size; obtain ⟨P3, c3, rfl, _⟩ := own_slice own3; have own3' : OwnB (w3.alloc (.cells #[.int .u8 c] 5)) w1.heap.size (.slice P3 3 c3) [lo i, hi i, 3] := World.ownsRow.alloc own3 _; have src3 := Src.new w3 [.int .u8 c] 5)
    | (at_builtin; refine wpList_app rfl rfl Try.underlying22 info_u8 rfl (by omega) rfl own3' rfl rfl src3 (by simp [Value.oneCell']) (by simp) (by simp) (by simp; omega) ?_; intro v5 w5 happ; have own5 : OwnB w5 w1.heap.size v5 ([lo i, hi i, 3] ++ [UInt8.ofNat c.toNat]) := OwnB.app (n := 3) (m := 1) (by rw [ho.out]; exact happ) rfl rfl; have hb5 := happ.below own3' (hb3.alloc hb3.size _) (by simp; omega); clear happ own3' src3))
  go_ret2
  exact ⟨_, rfl, own_mono own5 hb1.size, hb1.trans (hb5.mono hb1.size)⟩


theorem putKey_any (i u : Int) (s : ByteArray) (c : Int) (hs : s.size ≤ maxLen) (w : World) :
    Calls Try.prog 33 #[.agg #[.int .i64 i, .int .u8 u, .string s, .int .i64 c]] w (KeyEnd (mayKey i u s c) (keyBytes i u s c) w) := by
  cases h : mayKey i u s c
  · exact h ▸ putKey_no i u s c hs h w
  · rcases (mayKey_what h).2 with rfl | ⟨rfl, _⟩ | ⟨rfl, _⟩
    · exact (putKey_node i s c hs h w).mono fun e w' hh => .inr ⟨rfl, hh⟩
    · exact (putKey_entry i s c hs h w).mono fun e w' hh => .inr ⟨rfl, hh⟩
    · exact (putKey_piece i s c hs h w).mono fun e w' hh => .inr ⟨rfl, hh⟩
end Go.Proofs.Ytbhmncenbpdcjaa
end
section
/- The statements' own works, of layer 6. -/
namespace Go.Proofs.Ytbhmncenbpdcjaa
open Go.RowKit

theorem same_n (a b : List UInt8) (n m : Nat) (hn : a.length = n) (hm : b.length = m) (A B : Option Addr) (ca cb : Nat) (w : World) (ha : Bs w A a) (hb : Bs w B b) :
    Calls Try.prog 23 #[.slice A n ca, .slice B m cb] w (SameEnd w a b) := by
  subst hn hm; exact same_any a b A B ca cb w ha hb

def ab : ByteArray := ⟨#[97, 98]⟩
def emp : ByteArray := ⟨#[]⟩
def a1 : ByteArray := ⟨#[97]⟩
theorem may_ab : mayKey 5 2 ab 0 = true := by decide
theorem may_8 : mayKey 5 3 emp 8 = false := by unfold mayKey; rw [Lib.toList_data]; decide
theorem key_ab : keyBytes 5 2 ab 0 = [5, 0, 2, 2, 97, 98] := by decide
theorem before_works : before 5 1 emp 0 5 2 a1 0 = true := by decide

set_option maxRecDepth 100000 in
set_option maxHeartbeats 1000000 in
theorem works06 (w : World) : Calls Try.prog 13 #[] w (BoolEnd true w) := by
  have K1 := Lib.hid (fun w => key_ab ▸ putKey_entry 5 ab 0 (by simp [ab, maxLen, ByteArray.size]) may_ab w)
  have K2 := Lib.hid (fun w => putKey_no 5 3 emp 8 (by simp [emp, maxLen, ByteArray.size]) may_8 w)
  have KB := Lib.hid (fun w => before_works ▸ before_any 5 1 emp 0 5 2 a1 0 w)
  go_enter Try.func13, Try.ntmps13
  go_wp2_with fail
  refine (K1.out _).mono ?_
  rintro e w1 ⟨v1, rfl, own1, hb1⟩
  obtain ⟨A1, c1, rfl, src1⟩ := own_slice own1
  go_wp2_with fail
  refine (K2.out _).mono ?_
  rintro e w2 (⟨_, rfl, hb2⟩ | ⟨h, _⟩)
  · have bs2 := (Bs.of_src (l := [5, 0, 2, 2, 97, 98]) (by simp) src1).below hb2
    go_wp2_with fail
    have src3 := Src.new w2 (vals [5, 0, 2, 2, 97, 98]) 5
    have bs3 := Bs.of_src (l := [5, 0, 2, 2, 97, 98]) (by simp) src3
    refine (same_n [5, 0, 2, 2, 97, 98] [5, 0, 2, 2, 97, 98] 6 6 rfl rfl _ _ _ _ _ (bs2.below (below_alloc1 w2 _)) bs3).mono ?_
    rintro e w3 ⟨rfl, hb3⟩
    have hb23 := below_of (below_alloc1 w2 (.cells (vals [5, 0, 2, 2, 97, 98]).toArray 5)) hb3
    clear src3 bs3 src1 bs2
    go_wp2_with fail
    refine (KB.out _).mono ?_
    rintro e w4 ⟨rfl, hb4⟩
    go_wp2
    go_ret
    exact ⟨rfl, below_of (below_of (below_of hb1 hb2) hb23) hb4⟩
  · rw [may_8] at h; cases h
end Go.Proofs.Ytbhmncenbpdcjaa
end
section
/- FactApplies: its walk. -/
namespace Go.Proofs.Ytbhmncenbpdcjaa.P
open Go Go.Shelf Go.RowKit Go.Proofs.YtbhmncenbpdcjaaW.PrintWords Go.Proofs.YtbhmncenbpdcjaaW.PrintLast Go.Proofs.YtbhmncenbpdcjaaW.PrintMore
set_option linter.unusedVariables false
set_option linter.unusedSimpArgs false
attribute [local go_sem] Oper.semAt_some
def ApplyEnd (l : List F) (cs : List Ch) (w : World) (e : Ending) (w' : World) : Prop := ∃ v, e = .returned v ∧ Kd.R k47 47 w' w.heap.size (fun _ => True) v (applyF l cs) ∧ Below w.heap.size w w'
set_option maxRecDepth 100000 in
set_option maxHeartbeats 4000000 in
theorem apply_any (A0 : Option Addr) (c0 : Nat) (l0 : List F) (A1 : Option Addr) (c1 : Nat) (l1 : List Ch) (w : World) (hr0 : Kd.C k47 w A0 l0.length l0) (hc0 : l0.length ≤ c0) (hr1 : Kd.C k53 w A1 l1.length l1) (hc1 : l1.length ≤ c1)
    (hbig : (l0.length + l1.length) * 64 ≤ 140737488355328) (hs0 : ∀ x ∈ l0, x.f1.length < 140737488355328) (hs1 : ∀ x ∈ l1, x.f1.length < 140737488355328) :
    Calls Try.prog 16 #[.slice A0 l0.length c0, .slice A1 l1.length c1] w (ApplyEnd l0 l1 w) := by
  cases ho : ordB l0 with
  | true =>
    refine (apply_ord A0 c0 l0 A1 c1 l1 w hr0 hc0 hr1 hc1 ((ordB_iff l0).1 ho) hbig hs0 hs1).mono ?_
    rintro e w' ⟨v, rfl, hR, hb⟩
    refine ⟨v, rfl, ?_, hb⟩
    unfold applyF
    rw [ho]
    exact hR
  | false =>
    have HI := Lib.hid (isOrdered_any A0 c0 l0 w hr0 hc0)
    rw [ho] at HI
    have HE := Lib.hid ho
    clear ho hr0 hr1 hs0 hs1
    refine (callsIn_wide (n := 9)).1 ?_
    refine callsIn_of_wp_marks Try.func16 rfl trivial ?_ rfl
    simp only [Try.ntmps16, List.size_toArray, List.length_cons, List.length_nil, Nat.reduceAdd, Nat.reduceSub, Array.replicate_succ, Array.replicate_zero, List.push_toArray, List.append_toArray, List.nil_append, List.cons_append]
    gi_wp2_with fail
    refine ⟨trivial, (callsIn_wide.2 HI.out).mono ?_⟩
    rintro e w1 ⟨rfl, hb1⟩
    gi_wp2
    refine ⟨.slice none 0 0, ?_, _, rfl, ?_, hb1⟩
    · simp [results, Try.f16, go_sem]
    · unfold applyF; rw [HE.out]; exact Kd.R_nil _ _ _ _ _
theorem drawn_below {w w' : World} (h : Drawn0 w w') : Below w.heap.size w w' := by obtain ⟨n, rfl⟩ := h; exact pw_below_drewN (Below.refl _ _) n
theorem facts_any (A0 : Option Addr) (c0 : Nat) (l0 : List F) (A1 : Option Addr) (c1 : Nat) (l1 : List F) (w : World) (hr0 : Kd.C k47 w A0 l0.length l0) (hc0 : l0.length ≤ c0) (hr1 : Kd.C k47 w A1 l1.length l1) (hc1 : l1.length ≤ c1) (hs : ∀ x ∈ l0, x.f1.length < 140737488355328) :
    Calls Try.prog 19 #[.slice A0 l0.length c0, .slice A1 l1.length c1] w fun e w' => e = .returned (.bool (factsQ l0 l1)) ∧ Below w.heap.size w w' :=
  (carrackref00_Facts.calls (l0.length + 140737488355328 + 1) A0 c0 l0 A1 c1 l1 _ w hr0 hc0 hr1 hc1 (facts_f l0 l1 hr0.2.1 140737488355328 hs (by decide) _ (Nat.lt_succ_self _))).mono fun e w' ⟨he, hd⟩ => ⟨he, drawn_below hd⟩
theorem sameB_any (A0 : Option Addr) (c0 : Nat) (l0 : List Int) (A1 : Option Addr) (c1 : Nat) (l1 : List Int) (w : World) (hr0 : Kd.C (Kd.int .u8) w A0 l0.length l0) (hc0 : l0.length ≤ c0) (hr1 : Kd.C (Kd.int .u8) w A1 l1.length l1) (hc1 : l1.length ≤ c1) :
    Calls Try.prog 23 #[.slice A0 l0.length c0, .slice A1 l1.length c1] w fun e w' => e = .returned (.bool (decide (l0 = l1))) ∧ Below w.heap.size w w' :=
  (carrackref00_Same.calls (l0.length + 1) A0 c0 l0 A1 c1 l1 _ w hr0 hc0 hr1 hc1 (same_f l0 l1 hr0.2.1 _ (Nat.lt_succ_self _))).mono fun e w' ⟨he, hd⟩ => ⟨he, drawn_below hd⟩
theorem refFind_any (A : Option Addr) (c : Nat) (l : List F) (k : K) (w : World) (hr : Kd.C k47 w A l.length l) (hc : l.length ≤ c) (hn : ∀ x ∈ l, x.f0.f2.size ≤ maxLen) (hs : ∀ x ∈ l, x.f1.length < 140737488355328) :
    Calls Try.prog 22 #[.slice A l.length c, encK k] w (FindEnd l k w) :=
  (carrackref06_Find.calls (l.length + 1) A c l k.f0 k.f1 k.f2 k.f3 _ _ w hr hc (by rw [refFind_f l k hr.2.1 hn hs _ (Nat.lt_succ_self _), refFind_findB])).mono fun e w' ⟨v, he, hR, hb⟩ => ⟨v, he, hR, hb⟩
theorem findB_nil_of {l : List F} {k : K} (h : (ordB l && isB l k) = false) : findB l k = [] := by unfold findB; rw [h]; rfl
/-- What a list of facts must be, to go through all of it. -/
structure Fit (l : List F) : Prop where
  len : l.length ≤ 4194304
  name : ∀ x ∈ l, x.f0.f2.size ≤ maxLen
  val : ∀ x ∈ l, x.f1.length < 140737488355328
structure FitC (l : List Ch) : Prop where
  len : l.length ≤ 2097152
  name : ∀ x ∈ l, x.f0.f2.size ≤ maxLen
  val : ∀ x ∈ l, x.f1.length < 140737488355328
theorem applyF_fit {l : List F} {cs : List Ch} (h : Fit l) (hl : l.length ≤ 2097152) (hc : FitC cs) : Fit (applyF l cs) where
  len := by have h1 := applyF_length l cs; have h2 := hc.len; exact Nat.le_trans h1 (Nat.le_trans (Nat.add_le_add hl h2) (by decide))
  name := fun x hx => by
    rcases mem_applyF l cs x hx with h1 | ⟨c, h1, rfl⟩
    · exact h.name x h1
    · exact hc.name c h1
  val := fun x hx => by
    rcases mem_applyF l cs x hx with h1 | ⟨c, h1, rfl⟩
    · exact h.val x h1
    · exact hc.val c h1
end Go.Proofs.Ytbhmncenbpdcjaa.P
end
