/- Texts of this claim, laid one behind the other: Pcx1, FFresh0, QFresh, End, Opens, FFit. -/
import Derived.Below
import Derived.ChangeSame
import Derived.Carry
import Derived.WideKeyArgs
import Derived.Test.YtbhmncenbpdcjaaRows
import Derived.Test.YtbhmncenbpdcjaaWMore
import Derived.ChangeArms
import Derived.SizedLaws
import Derived.ChangeSlices
import Derived.Test.YtbhmncenbpdcjaaZ1
import Derived.Test.YtbhmncenbpdcjaaZ2
import Derived.Test.YtbhmncenbpdcjaaZ3
import Derived.Test.YtbhmncenbpdcjaaZ4
section
/- Printed by a program of this workplace (wip/print/gprint.py, over the kit's print.py): functions of the program as Lean functions, and that the Go text comes to their answers. -/
namespace Go.Proofs.Ytbhmncenbpdcjaa.P
open Go.RowKit Go.Proofs.YtbhmncenbpdcjaaW.PrintWords Go.Proofs.YtbhmncenbpdcjaaW.PrintLast Go.Proofs.YtbhmncenbpdcjaaW.PrintMore
attribute [local go_sem] max2_int min2_int max_two min_two max_three min_three max_four min_four   -- for this text's walks alone
set_option linter.unusedVariables false
set_option linter.unusedSimpArgs false

/-! ### carrackref00_Copy: function 8 -/
def carrackref00_Copy.f (l0 : List Int) : Option (List Int) := if ([] : List Int).length + l0.length < 140737488355328 then (some (([] : List Int) ++ l0)) else (none)
set_option maxHeartbeats 8000000 in
set_option maxRecDepth 100000 in
theorem carrackref00_Copy.calls (A0 : Option Addr) (c0 : Nat) (l0 : List Int) (r : List Int) (w : World) (hr0 : Kd.C (Kd.int .u8) w A0 l0.length l0) (hc0 : l0.length ≤ c0) (h : carrackref00_Copy.f l0 = some r) :
    Calls Try.prog 8 #[.slice A0 l0.length c0] w fun e w' => ∃ v0_ : Value, e = .returned (v0_) ∧ Kd.R (Kd.int .u8) 5 w' w.heap.size (fun _ => True) v0_ r ∧ Below w.heap.size w w' := by
  have HR0 := Aside0.mk hr0
  have HC0 := Aside0.mk hc0
  clear hr0 hc0
  have HB := Aside0.mk (Below.refl w.heap.size w)
  have H : (if ([] : List Int).length + l0.length < 140737488355328 then (some (([] : List Int) ++ l0)) else (none)) = some r := h
  clear h
  by_cases c2 : ([] : List Int).length + l0.length < 140737488355328
  · rw [if_pos c2] at H
    have LMc2 := Aside0.mk c2
    clear c2
    obtain ⟨y101, hy101⟩ : ∃ y_ : List Int, y_ = (([] : List Int) ++ l0) := ⟨_, rfl⟩
    replace H : (some y101) = some r := by first | (rw [hy101]; with_reducible exact H) | (have H2_ := (Option.bind_some _ _).symm.trans H; rw [hy101]; with_reducible exact H2_) | (have H2_ := (Option.bind_some _ _).symm.trans H; with_reducible exact H2_) | with_reducible exact H | (rw [hy101]; exact H) | exact H
    have Ny101 := Aside0.mk hy101
    clear hy101
    obtain rfl := Option.some.inj H
    go_enter Try.func8, Try.ntmps8
    go_wp2_with (first | ((with_reducible refine gate_builtin (b := .append) (xs := #[.tmp 4, .tmp 5]) rfl ?_); at_builtin; refine Kd.R_append_rows (Kd.int .u8) (w0 := w) w.heap.size rfl (.tmp 4) (.tmp 5) 22 5 (.int .u8 0) 1 rfl Try.underlying22 info5 rfl (by decide) (by omega) (.slice none 0 0) ([] : List Int) l0 _ _ _ (fun _ => True) (fun _ => False) rfl rfl ?aO ?aR (fun _ _ h => h) (fun _ h => h.elim) ?aF ?aB ?aS ?aL ?_; (case aR => repeat (first | exact HR0.out | (with_reducible refine Kd.C_alloc ?_ _) | (with_reducible refine Kd.C_drewN ?_ _) | (with_reducible refine Kd.C_drew ?_))); (case aB => exact (by repeat (first | (with_reducible first | exact HB.out | apply below_alloc | apply pw_below_drewN | apply below_drew1) | exact HB.out))); (case aF => exact (fun _ _ => trivial)); (case aO => exact ((Kd.R_nil _ _ _ _ (fun _ => True)))); (case aS => exact (below_size (by repeat (first | (with_reducible first | exact HB.out | apply below_alloc | apply pw_below_drewN | apply below_drew1) | exact HB.out)))); (case aL => have := LMc2.out; omega); intro v102 w3 ho hb hg hat; rw [← Ny101.out] at ho; have n0_ := Aside0.mk (hb); have n1_ := Aside0.mk (ho); clear HB; have HB := n0_; have HO103 := n1_; clear n0_ n1_; clear ho hb hg hat))
    go_ret
    exact ⟨_, by first | rfl | (simp [errW_none, errW_some] <;> rfl) | (simp [*, errW_none, errW_some] <;> rfl), by (with_reducible repeat (first | apply Kd.R_alloc | apply Kd.R_drewN | apply Kd.R_drew)); exact HO103.out, by repeat (first | (with_reducible first | exact HB.out | apply below_alloc | apply pw_below_drewN | apply below_drew1) | exact HB.out)⟩
  · rw [if_neg c2] at H
    exact absurd H (by simp)

/-! ### carrackref00_CopyFacts: function 14 -/
def carrackref00_CopyFacts.l0 : Nat → List (S47) → List (S47) → Int → Option ((List (S47)))
  | 0, _, _, _ => none
  | k + 1, x0, x3, x4 => if x4 < (x0.length : Int) then (if 0 ≤ x4 then ((carrackref00_Copy.f ((rd_T47 x0 x4).f1)).bind fun t106 => (if x3.length < 2199023255552 then (carrackref00_CopyFacts.l0 k x0 (x3 ++ [(⟨(⟨(rd_T47 x0 x4).f0.f0, (rd_T47 x0 x4).f0.f1, (rd_T47 x0 x4).f0.f2, (rd_T47 x0 x4).f0.f3⟩ : S30), t106⟩ : S47)]) (wrap64 (x4 + 1))) else (none))) else (none)) else (some x3)
def carrackref00_CopyFacts.f (k : Nat) (l0 : List (S47)) : Option ((List (S47))) := carrackref00_CopyFacts.l0 k l0 ([] : List (S47)) 0
theorem carrackref00_CopyFacts.mono_l : ∀ k, (∀ y0 y1 y2, LeO (carrackref00_CopyFacts.l0 k y0 y1 y2) (carrackref00_CopyFacts.l0 (k + 1) y0 y1 y2))
  | 0 => fun _ _ _ r h => by simp [carrackref00_CopyFacts.l0] at h
  | k + 1 => by
    have ih0 := carrackref00_CopyFacts.mono_l k
    · intro y0 y1 y2
      unfold carrackref00_CopyFacts.l0
      repeat' first
      | (with_reducible exact ih0 _ _ _)
      | (with_reducible exact LeO.refl _)
      | (with_reducible exact LeO.none _)
      | (with_reducible refine LeO.ite ?_ ?_)
      | (with_reducible refine LeO.bind ?_ (fun _ => ?_))
      | exact ih0 _ _ _
      | exact LeO.none _
      | refine LeO.ite ?_ ?_
      | refine LeO.bind ?_ (fun _ => ?_)
theorem carrackref00_CopyFacts.mono : ∀ a0 k, LeO (carrackref00_CopyFacts.f k a0) (carrackref00_CopyFacts.f (k + 1) a0) := by
  intro a0 k
  have ih0 := carrackref00_CopyFacts.mono_l k
  unfold carrackref00_CopyFacts.f
  repeat' first
      | (with_reducible exact ih0 _ _ _)
      | (with_reducible exact LeO.refl _)
      | (with_reducible exact LeO.none _)
      | (with_reducible refine LeO.ite ?_ ?_)
      | (with_reducible refine LeO.bind ?_ (fun _ => ?_))
      | exact ih0 _ _ _
      | exact LeO.none _
      | refine LeO.ite ?_ ?_
      | refine LeO.bind ?_ (fun _ => ?_)
def carrackref00_CopyFacts.T5 : Bool × List (List Nat × List Nat) := (true, [([], []), ([], []), ([], []), ([1, 2], [1, 2]), ([3], [3]), ([4], [4]), ([], []), ([], []), ([6, 7], [6, 7]), ([8], [8]), ([9], [9]), ([10], [10]), ([5, 11], [5, 11]), ([12], [12]), ([0, 13, 11], [0, 13]), ([14, 14, 0, 1, 2, 3, 4, 5, 6, 7, 8, 9, 10, 11, 12, 13, 14], [0, 14])])
def carrackref00_CopyFacts.B5 : List Nat := [0, 0, 0, 6, 14, 30, 0, 0, 192, 448, 960, 1984, 4094, 8190, 16383, 32767]
theorem carrackref00_CopyFacts.tab5 : rtab .any (opsOf Try.f14 5) = carrackref00_CopyFacts.T5 := by kernel_rfl
theorem carrackref00_CopyFacts.bits5 : waitsOk carrackref00_CopyFacts.T5.2 carrackref00_CopyFacts.B5 = true := by kernel_rfl
set_option maxHeartbeats 8000000 in
set_option maxRecDepth 100000 in
theorem carrackref00_CopyFacts.calls (k : Nat) (A0 : Option Addr) (c0 : Nat) (l0 : List (S47)) (r : List (S47)) (w : World) (hr0 : Kd.C k47 w A0 l0.length l0) (hc0 : l0.length ≤ c0) (h : carrackref00_CopyFacts.f k l0 = some r) :
    Calls Try.prog 14 #[.slice A0 l0.length c0] w fun e w' => ∃ v0_ : Value, e = .returned (v0_) ∧ Kd.S k47 47 w' w.heap.size (fun _ => True) v0_ r ∧ Below w.heap.size w w' := by
  have hu30 := Try.underlying30
  have hu47 := Try.underlying47
  have HR0 := Aside0.mk hr0
  have HC0 := Aside0.mk hc0
  clear hr0 hc0
  have HB := Aside0.mk (Below.refl w.heap.size w)
  have H : (carrackref00_CopyFacts.l0 k l0 ([] : List (S47)) 0) = some r := h
  clear h
  have H' := Aside0.mk H
  clear H
  go_enter Try.func14, Try.ntmps14
  go_wp2
  go_loopg [3, 4] k (fun kq v3 v4 w' => ∃ (x3_1 : List (S47)) (x4_1 : Int), v4 = .int .i64 x4_1 ∧ Aside0 (carrackref00_CopyFacts.l0 kq l0 x3_1 x4_1 = some r) ∧ Aside0 (kq ≤ k) ∧ Aside0 (Kd.S k47 47 w' w.heap.size (fun _ => True) v3 x3_1) ∧ Aside0 (Below w.heap.size w w'))
  case atStart => exact ⟨(([] : List (S47))), (0), (by first | rfl | (simp; done) | (simp [*]; done)), H', ⟨Nat.le_refl _⟩, ⟨by first | exact Kd.S_nil _ _ _ _ _ | exact Kd.N_nil _ _ _ _ _ | exact Kd.V_nil _ _ _ _ _ | exact Kd.Q_nil _ _ _ _ _ | exact Kd.R_nil _ _ _ _ _⟩, ⟨by repeat (first | (with_reducible first | exact HB.out | apply below_alloc | apply pw_below_drewN | apply below_drew1) | exact HB.out)⟩⟩
  case round =>
    clear H'
    try clear c1
    obtain ⟨x3_1, x4_1, rfl, HA, HK1, HO_3, HB⟩ := hrel
    cases gk with
    | zero => exact absurd HA.out (by simp [carrackref00_CopyFacts.l0])
    | succ k1 =>
      have H := HA.out
      clear HA
      simp only [carrackref00_CopyFacts.l0] at H
      by_cases c2 : x4_1 < (l0.length : Int)
      · rw [if_pos c2] at H
        have c2b0 : decide (x4_1 < (l0.length : Int)) = true := decide_eq_true c2
        clear c2
        by_cases c3 : 0 ≤ x4_1
        · rw [if_pos c3] at H
          have c3b0 : decide (0 ≤ x4_1) = true := decide_eq_true c3
          clear c3
          replace H := Option.bind_eq_some_iff.mp H
          obtain ⟨t106, A40, H⟩ := H
          replace H : (if x3_1.length < 2199023255552 then (carrackref00_CopyFacts.l0 k1 l0 (x3_1 ++ [(⟨(⟨(rd_T47 l0 x4_1).f0.f0, (rd_T47 l0 x4_1).f0.f1, (rd_T47 l0 x4_1).f0.f2, (rd_T47 l0 x4_1).f0.f3⟩ : S30), t106⟩ : S47)]) (wrap64 (x4_1 + 1))) else (none)) = some r := H
          have A4 := Aside0.mk A40
          clear A40
          by_cases c5 : x3_1.length < 2199023255552
          · rw [if_pos c5] at H
            have LMc5 := Aside0.mk c5
            clear c5
            obtain ⟨y109, hy109⟩ : ∃ y_ : List (S47), y_ = (x3_1 ++ [(⟨(⟨(rd_T47 l0 x4_1).f0.f0, (rd_T47 l0 x4_1).f0.f1, (rd_T47 l0 x4_1).f0.f2, (rd_T47 l0 x4_1).f0.f3⟩ : S30), t106⟩ : S47)]) := ⟨_, rfl⟩
            replace H : (carrackref00_CopyFacts.l0 k1 l0 y109 (wrap64 (x4_1 + 1))) = some r := by first | (rw [hy109]; with_reducible exact H) | (have H2_ := (Option.bind_some _ _).symm.trans H; rw [hy109]; with_reducible exact H2_) | (have H2_ := (Option.bind_some _ _).symm.trans H; with_reducible exact H2_) | with_reducible exact H | (rw [hy109]; exact H) | exact H
            have Ny109 := Aside0.mk hy109
            clear hy109
            have H' := Aside0.mk H
            clear H
            try go_wp2
            have n0_ := Aside0.mk (Kd.S_drew HO_3.out)
            have n1_ := Aside0.mk (below_drew1 HB.out)
            clear HO_3
            clear HB
            have HO_3 := n0_
            have HB := n1_
            clear n0_ n1_
            have p104 : 0 ≤ (x4_1 : Int) := of_decide_eq_true (by first | (with_reducible assumption) | assumption)
            have q104 : x4_1 < (l0.length : Int) := of_decide_eq_true (by first | (with_reducible assumption) | assumption)
            obtain ⟨ad104, A104_4, c104_4, e104, hx104_0, hx104_1, hx104_2, hx104_3, hx104_4, hl104_4, hi104_4⟩ := at_T47 HR0.out x4_1 p104 q104
            have hw104_4 := hx104_4
            have hw104_3 := hx104_3
            have hw104_2 := hx104_2
            have hw104_1 := hx104_1
            have hw104_0 := hx104_0
            cases e104
            replace hx104_0 := (HB.out.cell (World.block_lt_of_cell? w _ hx104_0)).trans hx104_0
            replace hx104_1 := (HB.out.cell (World.block_lt_of_cell? w _ hx104_1)).trans hx104_1
            replace hx104_2 := (HB.out.cell (World.block_lt_of_cell? w _ hx104_2)).trans hx104_2
            replace hx104_3 := (HB.out.cell (World.block_lt_of_cell? w _ hx104_3)).trans hx104_3
            replace hx104_4 := (HB.out.cell (World.block_lt_of_cell? w _ hx104_4)).trans hx104_4
            have HR104_4 := Aside0.mk hi104_4
            have HC104_4 := Aside0.mk hl104_4
            clear hi104_4 hl104_4
            replace p104 := eq_true p104
            replace q104 := eq_true q104
            have p105 : 0 ≤ (x4_1 : Int) := of_decide_eq_true (by first | (with_reducible assumption) | assumption)
            have q105 : x4_1 < (l0.length : Int) := of_decide_eq_true (by first | (with_reducible assumption) | assumption)
            obtain ⟨ad105, A105_4, c105_4, e105, hx105_0, hx105_1, hx105_2, hx105_3, hx105_4, hl105_4, hi105_4⟩ := at_T47 HR0.out x4_1 p105 q105
            have hw105_4 := hx105_4
            have hw105_3 := hx105_3
            have hw105_2 := hx105_2
            have hw105_1 := hx105_1
            have hw105_0 := hx105_0
            obtain rfl : ad104 = ad105 := (by injection e105)
            replace hx105_0 := (HB.out.cell (World.block_lt_of_cell? w _ hx105_0)).trans hx105_0
            replace hx105_1 := (HB.out.cell (World.block_lt_of_cell? w _ hx105_1)).trans hx105_1
            replace hx105_2 := (HB.out.cell (World.block_lt_of_cell? w _ hx105_2)).trans hx105_2
            replace hx105_3 := (HB.out.cell (World.block_lt_of_cell? w _ hx105_3)).trans hx105_3
            replace hx105_4 := (HB.out.cell (World.block_lt_of_cell? w _ hx105_4)).trans hx105_4
            have HR105_4 := Aside0.mk hi105_4
            have HC105_4 := Aside0.mk hl105_4
            clear hi105_4 hl105_4
            replace p105 := eq_true p105
            replace q105 := eq_true q105
            have ea_ := Option.some.inj (hx104_4.symm.trans hx105_4)
            injection ea_ with ea_ en_ ec_
            subst ea_
            subst ec_
            clear en_
            refine start_ (n := 16) (S := fun w' => w'.cell? (ad104.add ((x4_1).toNat * 5)) = some (.int .i64 ((rd_T47 l0 x4_1).f0.f0)) ∧ w'.cell? ⟨(ad104.add ((x4_1).toNat * 5)).block, (ad104.add ((x4_1).toNat * 5)).off + 1, none⟩ = some (.int .u8 ((rd_T47 l0 x4_1).f0.f1)) ∧ w'.cell? ⟨(ad104.add ((x4_1).toNat * 5)).block, (ad104.add ((x4_1).toNat * 5)).off + 2, none⟩ = some (.string ((rd_T47 l0 x4_1).f0.f2)) ∧ w'.cell? ⟨(ad104.add ((x4_1).toNat * 5)).block, (ad104.add ((x4_1).toNat * 5)).off + 3, none⟩ = some (.int .i64 ((rd_T47 l0 x4_1).f0.f3)) ∧ w'.cell? ⟨(ad104.add ((x4_1).toNat * 5)).block, (ad104.add ((x4_1).toNat * 5)).off + 4, none⟩ = some (.slice A104_4 ((rd_T47 l0 x4_1).f1).length c104_4) ∧ w'.cell? (ad104.add ((x4_1).toNat * 5)) = some (.int .i64 ((rd_T47 l0 x4_1).f0.f0)) ∧ w'.cell? ⟨(ad104.add ((x4_1).toNat * 5)).block, (ad104.add ((x4_1).toNat * 5)).off + 1, none⟩ = some (.int .u8 ((rd_T47 l0 x4_1).f0.f1)) ∧ w'.cell? ⟨(ad104.add ((x4_1).toNat * 5)).block, (ad104.add ((x4_1).toNat * 5)).off + 2, none⟩ = some (.string ((rd_T47 l0 x4_1).f0.f2)) ∧ w'.cell? ⟨(ad104.add ((x4_1).toNat * 5)).block, (ad104.add ((x4_1).toNat * 5)).off + 3, none⟩ = some (.int .i64 ((rd_T47 l0 x4_1).f0.f3)) ∧ w'.cell? ⟨(ad104.add ((x4_1).toNat * 5)).block, (ad104.add ((x4_1).toNat * 5)).off + 4, none⟩ = some (.slice A104_4 ((rd_T47 l0 x4_1).f1).length c104_4)) (ds := []) #[false, false, false, false, false, false, false, false, false, false, false, false, false, false, false, false] (by kernel_rfl) rfl rfl ⟨((HB.out.cell (World.block_lt_of_cell? w _ hw104_0)).trans hw104_0), ((HB.out.cell (World.block_lt_of_cell? w _ hw104_1)).trans hw104_1), ((HB.out.cell (World.block_lt_of_cell? w _ hw104_2)).trans hw104_2), ((HB.out.cell (World.block_lt_of_cell? w _ hw104_3)).trans hw104_3), ((HB.out.cell (World.block_lt_of_cell? w _ hw104_4)).trans hw104_4), ((HB.out.cell (World.block_lt_of_cell? w _ hw105_0)).trans hw105_0), ((HB.out.cell (World.block_lt_of_cell? w _ hw105_1)).trans hw105_1), ((HB.out.cell (World.block_lt_of_cell? w _ hw105_2)).trans hw105_2), ((HB.out.cell (World.block_lt_of_cell? w _ hw105_3)).trans hw105_3), ((HB.out.cell (World.block_lt_of_cell? w _ hw105_4)).trans hw105_4)⟩ (fun hHeld => ?_); refine with_tabW carrackref00_CopyFacts.tab5 carrackref00_CopyFacts.bits5 (fun HT_ HW_ => ?_)
            generalize wr.drew = w6 at HO_3 HB HR104_4 HR105_4 hx104_0 hx104_1 hx104_2 hx104_3 hx104_4 hx105_0 hx105_1 hx105_2 hx105_3 hx105_4 hHeld ⊢
            refine pure_ (i := 0) (N := some 11) (v := ?_) (a' := ?_) #[true, false, false, false, false, false, false, false, false, false, false, false, false, false, false, false] rfl rfl (any_of HT_.out (by kernel_rfl)) (fun _ _ _ h => h) (Or.inl ⟨by rfl, ?_⟩) ?_ ?_
            rotate_left
            · intro w'
              go_simp
              with_reducible rfl
            rotate_left
            · simp only [Act.put, List.setIfInBounds_toArray, List.set_cons_zero, List.set_cons_succ, i64_w, i32_w]
              rfl
            refine pure_ (i := 1) (N := some 12) (v := ?_) (a' := ?_) #[true, true, false, false, false, false, false, false, false, false, false, false, false, false, false, false] rfl rfl (any_of HT_.out (by kernel_rfl)) (fun _ _ _ h => h) (Or.inl ⟨by rfl, ?_⟩) ?_ ?_
            rotate_left
            · intro w'
              go_simp
              with_reducible rfl
            rotate_left
            · simp only [Act.put, List.setIfInBounds_toArray, List.set_cons_zero, List.set_cons_succ, i64_w, i32_w]
              rfl
            refine pure_ (i := 2) (N := some 13) (v := ?_) (a' := ?_) #[true, true, true, false, false, false, false, false, false, false, false, false, false, false, false, false] rfl rfl (any_of HT_.out (by kernel_rfl)) (fun _ _ _ h => h) (Or.inl ⟨by rfl, ?_⟩) ?_ ?_
            rotate_left
            · intro w'
              go_simp
              with_reducible rfl
            rotate_left
            · simp only [Act.put, List.setIfInBounds_toArray, List.set_cons_zero, List.set_cons_succ, i64_w, i32_w]
              rfl
            refine pure_ (i := 3) (N := some 14) (v := ?_) (a' := ?_) #[true, true, true, true, false, false, false, false, false, false, false, false, false, false, false, false] rfl rfl (any_of HT_.out (by kernel_rfl)) (fun _ _ _ h => h) (Or.inl ⟨by rfl, ?_⟩) ?_ ?_
            rotate_left
            · intro w'
              go_simp
              with_reducible rfl
            rotate_left
            · simp only [Act.put, List.setIfInBounds_toArray, List.set_cons_zero, List.set_cons_succ, i64_w, i32_w]
              rfl
            refine pure_ (i := 4) (N := some 15) (v := ?_) (a' := ?_) #[true, true, true, true, true, false, false, false, false, false, false, false, false, false, false, false] rfl rfl (any_of HT_.out (by kernel_rfl)) (fun _ _ _ h => h) (Or.inl ⟨by rfl, ?_⟩) ?_ ?_
            rotate_left
            · intro w'
              go_simp
              with_reducible rfl
            rotate_left
            · simp only [Act.put, List.setIfInBounds_toArray, List.set_cons_zero, List.set_cons_succ, i64_w, i32_w]
              rfl
            refine pure_ (i := 6) (N := some 17) (v := ?_) (a' := ?_) #[true, true, true, true, true, false, true, false, false, false, false, false, false, false, false, false] rfl rfl (any_of HT_.out (by kernel_rfl)) (fun _ _ _ h => h) (Or.inl ⟨by rfl, ?_⟩) ?_ ?_
            rotate_left
            · intro w'
              go_simp
              with_reducible rfl
            rotate_left
            · simp only [Act.put, List.setIfInBounds_toArray, List.set_cons_zero, List.set_cons_succ, i64_w, i32_w]
              rfl
            refine pure_ (i := 7) (N := some 18) (v := ?_) (a' := ?_) #[true, true, true, true, true, false, true, true, false, false, false, false, false, false, false, false] rfl rfl (any_of HT_.out (by kernel_rfl)) (fun _ _ _ h => h) (Or.inl ⟨by rfl, ?_⟩) ?_ ?_
            rotate_left
            · intro w'
              go_simp
              with_reducible rfl
            rotate_left
            · simp only [Act.put, List.setIfInBounds_toArray, List.set_cons_zero, List.set_cons_succ, i64_w, i32_w]
              rfl
            refine pure_ (i := 8) (N := some 19) (v := ?_) (a' := ?_) #[true, true, true, true, true, false, true, true, true, false, false, false, false, false, false, false] rfl rfl (any_of HT_.out (by kernel_rfl)) (fun _ _ _ h => h) (Or.inl ⟨by rfl, ?_⟩) ?_ ?_
            rotate_left
            · intro w'
              go_simp
              with_reducible rfl
            rotate_left
            · simp only [Act.put, List.setIfInBounds_toArray, List.set_cons_zero, List.set_cons_succ, i64_w, i32_w]
              rfl
            refine pure_ (i := 9) (N := some 20) (v := ?_) (a' := ?_) #[true, true, true, true, true, false, true, true, true, true, false, false, false, false, false, false] rfl rfl (any_of HT_.out (by kernel_rfl)) (fun _ _ _ h => h) (Or.inl ⟨by rfl, ?_⟩) ?_ ?_
            rotate_left
            · intro w'
              go_simp
              with_reducible rfl
            rotate_left
            · simp only [Act.put, List.setIfInBounds_toArray, List.set_cons_zero, List.set_cons_succ, i64_w, i32_w]
              rfl
            refine take_ (i := 5) (N := some 16) (v := ?_) (a' := ?_) #[true, true, true, true, true, true, true, true, true, true, false, false, false, false, false, false] rfl rfl (take_ofW HT_.out HW_.out (by kernel_rfl)) (fun _ _ _ h => h) (Or.inl ⟨by rfl, ?_⟩) hHeld ?_ ?_
            rotate_left
            · rintro w' ⟨s0, s1, s2, s3, s4, s5, s6, s7, s8, s9⟩
              go_simp
              with_reducible rfl
            rotate_left
            · simp only [Act.put, List.setIfInBounds_toArray, List.set_cons_zero, List.set_cons_succ, i64_w, i32_w]
              rfl
            refine take_ (i := 10) (N := some 21) (v := ?_) (a' := ?_) #[true, true, true, true, true, true, true, true, true, true, true, false, false, false, false, false] rfl rfl (take_ofW HT_.out HW_.out (by kernel_rfl)) (fun _ _ _ h => h) (Or.inl ⟨by rfl, ?_⟩) hHeld ?_ ?_
            rotate_left
            · rintro w' ⟨s0, s1, s2, s3, s4, s5, s6, s7, s8, s9⟩
              go_simp
              with_reducible rfl
            rotate_left
            · simp only [Act.put, List.setIfInBounds_toArray, List.set_cons_zero, List.set_cons_succ, i64_w, i32_w]
              rfl
            refine one_ (i := 11) (N := some 22) #[true, true, true, true, true, true, true, true, true, true, true, true, false, false, false, false] rfl rfl (one_of HT_.out (by kernel_rfl)) (by decide) (fun K hK => ?_)
            refine goes_ Try.func8 (by kernel_rfl) rfl #[.slice A104_4 ((rd_T47 l0 x4_1).f1).length c104_4] (by rfl) rfl rfl (by (try simp only [List.map_toArray, List.map_cons, List.map_nil]); first | done | rfl | (simp only [List.length_drop, List.length_take]; rfl)) ?_
            with_reducible refine (carrackref00_Copy.calls _ _ ((rd_T47 l0 x4_1).f1) t106 _ ?side1 ?side2 A4.out).mono ?_
            (case side1 => repeat (first | exact (Kd.C_below HR105_4.out HB.out) | (with_reducible refine Kd.C_alloc ?_ _) | (with_reducible refine Kd.C_drewN ?_ _) | (with_reducible refine Kd.C_drew ?_)))
            (case side2 => exact HC105_4.out)
            rintro e w7 ⟨v107, rfl, ho0, hb⟩
            refine ⟨_, rfl, ?_⟩
            have n0_ := Aside0.mk (Kd.S_elder' (by (with_reducible repeat (first | apply Kd.S_alloc | apply Kd.S_drewN | apply Kd.S_drew)); exact HO_3.out) (Kd.R_base ho0) hb)
            have n1_ := Aside0.mk (Kd.R_lower ho0 (below_size (by repeat (first | (with_reducible first | exact HB.out | apply below_alloc | apply pw_below_drewN | apply below_drew1) | exact HB.out))))
            have n2_ := Aside0.mk (below_step (by repeat (first | (with_reducible first | exact HB.out | apply below_alloc | apply pw_below_drewN | apply below_drew1) | exact HB.out)) hb)
            clear HO_3
            clear HB
            have HO_3 := n0_
            have HO108 := n1_
            have HB := n2_
            clear n0_ n1_ n2_
            (try clear hb)
            (try clear hb2)
            (try clear hk)
            (try clear hi)
            (try clear ho0)
            obtain ⟨Ao8, co8, eo8⟩ := Kd.R_slice HO108.out
            (first | subst eo8 | (injection eo8 with f1_ f2_ f3_; have f4_ := f1_.symm; have f5_ := f3_.symm; clear f1_ f2_ f3_; subst f4_; subst f5_))
            refine hK.out _ _ ⟨((HB.out.cell (World.block_lt_of_cell? w _ hw104_0)).trans hw104_0), ((HB.out.cell (World.block_lt_of_cell? w _ hw104_1)).trans hw104_1), ((HB.out.cell (World.block_lt_of_cell? w _ hw104_2)).trans hw104_2), ((HB.out.cell (World.block_lt_of_cell? w _ hw104_3)).trans hw104_3), ((HB.out.cell (World.block_lt_of_cell? w _ hw104_4)).trans hw104_4), ((HB.out.cell (World.block_lt_of_cell? w _ hw105_0)).trans hw105_0), ((HB.out.cell (World.block_lt_of_cell? w _ hw105_1)).trans hw105_1), ((HB.out.cell (World.block_lt_of_cell? w _ hw105_2)).trans hw105_2), ((HB.out.cell (World.block_lt_of_cell? w _ hw105_3)).trans hw105_3), ((HB.out.cell (World.block_lt_of_cell? w _ hw105_4)).trans hw105_4)⟩ (fun hHeld => ?_)
            clear hK K
            refine norm_ (a' := ?_) ?_ ?_
            rotate_left
            · show Act.put _ (some 22) _ = _
              simp only [Act.put, List.setIfInBounds_toArray, List.set_cons_zero, List.set_cons_succ, i64_w, i32_w]
              rfl
            refine pure_ (i := 12) (N := some 23) (v := ?_) (a' := ?_) #[true, true, true, true, true, true, true, true, true, true, true, true, true, false, false, false] rfl rfl (any_of HT_.out (by kernel_rfl)) (fun _ _ _ h => h) (Or.inl ⟨by rfl, ?_⟩) ?_ ?_
            rotate_left
            · intro w'
              go_simp
              with_reducible rfl
            rotate_left
            · simp only [Act.put, List.setIfInBounds_toArray, List.set_cons_zero, List.set_cons_succ, i64_w, i32_w]
              rfl
            refine one_ (i := 13) (N := some 24) #[true, true, true, true, true, true, true, true, true, true, true, true, true, true, false, false] rfl rfl (one_of HT_.out (by kernel_rfl)) (by decide) (fun K hK => ?_)
            refine value_ (w1 := ?_) (v := ?_) (by rfl) rfl ?_ ?_
            rotate_left 2
            · go_simp
              constructor
              · rfl
              · rfl
            refine hK.out _ _ ⟨(World.cell?_alloc_lt _ _ _ (World.block_lt_of_cell? _ _ (((HB.out.cell (World.block_lt_of_cell? w _ hw104_0)).trans hw104_0)))).trans (((HB.out.cell (World.block_lt_of_cell? w _ hw104_0)).trans hw104_0)), (World.cell?_alloc_lt _ _ _ (World.block_lt_of_cell? _ _ (((HB.out.cell (World.block_lt_of_cell? w _ hw104_1)).trans hw104_1)))).trans (((HB.out.cell (World.block_lt_of_cell? w _ hw104_1)).trans hw104_1)), (World.cell?_alloc_lt _ _ _ (World.block_lt_of_cell? _ _ (((HB.out.cell (World.block_lt_of_cell? w _ hw104_2)).trans hw104_2)))).trans (((HB.out.cell (World.block_lt_of_cell? w _ hw104_2)).trans hw104_2)), (World.cell?_alloc_lt _ _ _ (World.block_lt_of_cell? _ _ (((HB.out.cell (World.block_lt_of_cell? w _ hw104_3)).trans hw104_3)))).trans (((HB.out.cell (World.block_lt_of_cell? w _ hw104_3)).trans hw104_3)), (World.cell?_alloc_lt _ _ _ (World.block_lt_of_cell? _ _ (((HB.out.cell (World.block_lt_of_cell? w _ hw104_4)).trans hw104_4)))).trans (((HB.out.cell (World.block_lt_of_cell? w _ hw104_4)).trans hw104_4)), (World.cell?_alloc_lt _ _ _ (World.block_lt_of_cell? _ _ (((HB.out.cell (World.block_lt_of_cell? w _ hw105_0)).trans hw105_0)))).trans (((HB.out.cell (World.block_lt_of_cell? w _ hw105_0)).trans hw105_0)), (World.cell?_alloc_lt _ _ _ (World.block_lt_of_cell? _ _ (((HB.out.cell (World.block_lt_of_cell? w _ hw105_1)).trans hw105_1)))).trans (((HB.out.cell (World.block_lt_of_cell? w _ hw105_1)).trans hw105_1)), (World.cell?_alloc_lt _ _ _ (World.block_lt_of_cell? _ _ (((HB.out.cell (World.block_lt_of_cell? w _ hw105_2)).trans hw105_2)))).trans (((HB.out.cell (World.block_lt_of_cell? w _ hw105_2)).trans hw105_2)), (World.cell?_alloc_lt _ _ _ (World.block_lt_of_cell? _ _ (((HB.out.cell (World.block_lt_of_cell? w _ hw105_3)).trans hw105_3)))).trans (((HB.out.cell (World.block_lt_of_cell? w _ hw105_3)).trans hw105_3)), (World.cell?_alloc_lt _ _ _ (World.block_lt_of_cell? _ _ (((HB.out.cell (World.block_lt_of_cell? w _ hw105_4)).trans hw105_4)))).trans (((HB.out.cell (World.block_lt_of_cell? w _ hw105_4)).trans hw105_4))⟩ (fun hHeld => ?_)
            clear hK K
            refine norm_ (a' := ?_) ?_ ?_
            rotate_left
            · show Act.put _ (some 24) _ = _
              simp only [Act.put, List.setIfInBounds_toArray, List.set_cons_zero, List.set_cons_succ, i64_w, i32_w]
              rfl
            refine one_ (i := 14) (N := some 25) #[true, true, true, true, true, true, true, true, true, true, true, true, true, true, true, false] rfl rfl (one_of HT_.out (by kernel_rfl)) (by decide) (fun K hK => ?_)
            refine Kd.S_append_step k47 (w0 := w) w.heap.size (by rfl) (.tmp 11) (.tmp 24) 38 47 (.agg #[(.int .i64 0), (.int .u8 0), (.string ⟨#[]⟩), (.int .i64 0), (.slice none 0 0)]) 64 rfl Try.underlying38 info47 rfl (by decide) (by omega) u3 x3_1 (⟨(⟨(rd_T47 l0 x4_1).f0.f0, (rd_T47 l0 x4_1).f0.f1, (rd_T47 l0 x4_1).f0.f2, (rd_T47 l0 x4_1).f0.f3⟩ : S30), t106⟩ : S47) [.int .i64 ((rd_T47 l0 x4_1).f0.f0), .int .u8 ((rd_T47 l0 x4_1).f0.f1), .string ((rd_T47 l0 x4_1).f0.f2), .int .i64 ((rd_T47 l0 x4_1).f0.f3), .slice Ao8 t106.length co8] (fun _ => True) (fun k_ => some k_ = (.slice Ao8 t106.length co8 : Value).ownBlock) rfl rfl ?aP (fun k_ hk_ => ((Kd.R_mono (ok' := fun k_ => ((fun _ => True)) k_ ∧ some k_ ≠ (u3 : Value).ownBlock) (Kd.R_apart' (HO108.out) (Kd.S_typed HO_3.out) (by decide)) (fun k_ hk => ⟨trivial, hk.2⟩))).1 k_ hk_.symm) ?aF ?aO ?aB ?aS ?aL ?_
            (case aP => exact k47_mkM _ _ _ (⟨(⟨(rd_T47 l0 x4_1).f0.f0, (rd_T47 l0 x4_1).f0.f1, (rd_T47 l0 x4_1).f0.f2, (rd_T47 l0 x4_1).f0.f3⟩ : S30), t106⟩ : S47) (Kd.R_mono (Kd.R_tight rfl (Kd.R_mono (ok' := fun k_ => ((fun _ => True)) k_ ∧ some k_ ≠ (u3 : Value).ownBlock) (Kd.R_apart' (HO108.out) (Kd.S_typed HO_3.out) (by decide)) (fun k_ hk => ⟨trivial, hk.2⟩))) (fun _ h_ => h_)))
            (case aB => exact (by repeat (first | (with_reducible first | exact HB.out | apply below_alloc | apply pw_below_drewN | apply below_drew1) | exact HB.out)))
            (case aF => exact (fun _ _ => trivial))
            (case aO => exact (by (with_reducible repeat (first | apply Kd.S_alloc | apply Kd.S_drewN | apply Kd.S_drew)); exact Kd.S_mono HO_3.out (fun k_ hk => ⟨trivial, fun e_ => hk.2 e_⟩)))
            (case aS => exact (below_size (by repeat (first | (with_reducible first | exact HB.out | apply below_alloc | apply pw_below_drewN | apply below_drew1) | exact HB.out))))
            (case aL => have := LMc5.out; omega)
            intro v110 w9 ho hb hg hat
            rw [← Ny109.out] at ho
            have n0_ := Aside0.mk (hb)
            have n1_ := Aside0.mk (ho)
            clear HB
            clear HO_3
            clear HO108
            have HB := n0_
            have HO111 := n1_
            clear n0_ n1_
            clear ho hb hg hat
            refine hK.out _ _ ⟨((HB.out.cell (World.block_lt_of_cell? w _ hw104_0)).trans hw104_0), ((HB.out.cell (World.block_lt_of_cell? w _ hw104_1)).trans hw104_1), ((HB.out.cell (World.block_lt_of_cell? w _ hw104_2)).trans hw104_2), ((HB.out.cell (World.block_lt_of_cell? w _ hw104_3)).trans hw104_3), ((HB.out.cell (World.block_lt_of_cell? w _ hw104_4)).trans hw104_4), ((HB.out.cell (World.block_lt_of_cell? w _ hw105_0)).trans hw105_0), ((HB.out.cell (World.block_lt_of_cell? w _ hw105_1)).trans hw105_1), ((HB.out.cell (World.block_lt_of_cell? w _ hw105_2)).trans hw105_2), ((HB.out.cell (World.block_lt_of_cell? w _ hw105_3)).trans hw105_3), ((HB.out.cell (World.block_lt_of_cell? w _ hw105_4)).trans hw105_4)⟩ (fun hHeld => ?_)
            clear hK K
            refine norm_ (a' := ?_) ?_ ?_
            rotate_left
            · show Act.put _ (some 25) _ = _
              simp only [Act.put, List.setIfInBounds_toArray, List.set_cons_zero, List.set_cons_succ, i64_w, i32_w]
              rfl
            refine pure_ (i := 15) (N := some 3) (v := ?_) (a' := ?_) #[true, true, true, true, true, true, true, true, true, true, true, true, true, true, true, true] rfl rfl (any_of HT_.out (by kernel_rfl)) (fun _ _ _ h => h) (Or.inl ⟨by rfl, ?_⟩) ?_ ?_
            rotate_left
            · intro w'
              go_simp
              with_reducible rfl
            rotate_left
            · simp only [Act.put, List.setIfInBounds_toArray, List.set_cons_zero, List.set_cons_succ, i64_w, i32_w]
              rfl
            refine done_ (done_of HT_.out (by kernel_rfl)) ?_
            try go_wp2
            go_roundg k1
            case measure => have := HK1.out; omega
            case rel => exact ⟨(y109), (wrap64 (x4_1 + 1)), (by first | rfl | (simp; done) | (simp [*]; done)), H', ⟨by have := HK1.out; omega⟩, ⟨by (with_reducible repeat (first | apply Kd.S_alloc | apply Kd.S_drewN | apply Kd.S_drew)); exact HO111.out⟩, ⟨by repeat (first | (with_reducible first | exact HB.out | apply below_alloc | apply pw_below_drewN | apply below_drew1) | exact HB.out)⟩⟩
          · rw [if_neg c5] at H
            exact absurd H (by simp)
        · rw [if_neg c3] at H
          exact absurd H (by simp)
      · rw [if_neg c2] at H
        have c2b0 : decide (x4_1 < (l0.length : Int)) = false := decide_eq_false c2
        clear c2
        obtain rfl := Option.some.inj H
        go_wp2
        go_ret
        exact ⟨_, by first | rfl | (simp [errW_none, errW_some] <;> rfl) | (simp [*, errW_none, errW_some] <;> rfl), by (with_reducible repeat (first | apply Kd.S_alloc | apply Kd.S_drewN | apply Kd.S_drew)); exact HO_3.out, by repeat (first | (with_reducible first | exact HB.out | apply below_alloc | apply pw_below_drewN | apply below_drew1) | exact HB.out)⟩

/-! ### carrackref00_CopyChanges: function 15 -/
def carrackref00_CopyChanges.l0 : Nat → List (S53) → List (S53) → Int → Option ((List (S53)))
  | 0, _, _, _ => none
  | k + 1, x0, x3, x4 => if x4 < (x0.length : Int) then (if 0 ≤ x4 then ((carrackref00_Copy.f ((rd_T53 x0 x4).f1)).bind fun t114 => (if x3.length < 1954687338268 then (carrackref00_CopyChanges.l0 k x0 (x3 ++ [(⟨(⟨(rd_T53 x0 x4).f0.f0, (rd_T53 x0 x4).f0.f1, (rd_T53 x0 x4).f0.f2, (rd_T53 x0 x4).f0.f3⟩ : S30), t114, (rd_T53 x0 x4).f2⟩ : S53)]) (wrap64 (x4 + 1))) else (none))) else (none)) else (some x3)
def carrackref00_CopyChanges.f (k : Nat) (l0 : List (S53)) : Option ((List (S53))) := carrackref00_CopyChanges.l0 k l0 ([] : List (S53)) 0
theorem carrackref00_CopyChanges.mono_l : ∀ k, (∀ y0 y1 y2, LeO (carrackref00_CopyChanges.l0 k y0 y1 y2) (carrackref00_CopyChanges.l0 (k + 1) y0 y1 y2))
  | 0 => fun _ _ _ r h => by simp [carrackref00_CopyChanges.l0] at h
  | k + 1 => by
    have ih0 := carrackref00_CopyChanges.mono_l k
    · intro y0 y1 y2
      unfold carrackref00_CopyChanges.l0
      repeat' first
      | (with_reducible exact ih0 _ _ _)
      | (with_reducible exact LeO.refl _)
      | (with_reducible exact LeO.none _)
      | (with_reducible refine LeO.ite ?_ ?_)
      | (with_reducible refine LeO.bind ?_ (fun _ => ?_))
      | exact ih0 _ _ _
      | exact LeO.none _
      | refine LeO.ite ?_ ?_
      | refine LeO.bind ?_ (fun _ => ?_)
theorem carrackref00_CopyChanges.mono : ∀ a0 k, LeO (carrackref00_CopyChanges.f k a0) (carrackref00_CopyChanges.f (k + 1) a0) := by
  intro a0 k
  have ih0 := carrackref00_CopyChanges.mono_l k
  unfold carrackref00_CopyChanges.f
  repeat' first
      | (with_reducible exact ih0 _ _ _)
      | (with_reducible exact LeO.refl _)
      | (with_reducible exact LeO.none _)
      | (with_reducible refine LeO.ite ?_ ?_)
      | (with_reducible refine LeO.bind ?_ (fun _ => ?_))
      | exact ih0 _ _ _
      | exact LeO.none _
      | refine LeO.ite ?_ ?_
      | refine LeO.bind ?_ (fun _ => ?_)
def carrackref00_CopyChanges.T5 : Bool × List (List Nat × List Nat) := (true, [([], []), ([], []), ([], []), ([1, 2], [1, 2]), ([3], [3]), ([4], [4]), ([], []), ([], []), ([6, 7], [6, 7]), ([8], [8]), ([9], [9]), ([10], [10]), ([], []), ([], []), ([12, 13], [12, 13]), ([14], [14]), ([15], [15]), ([5, 11, 16], [5, 11, 16]), ([17], [17]), ([0, 18, 11], [0, 18]), ([19, 19, 0, 1, 2, 3, 4, 5, 6, 7, 8, 9, 10, 11, 12, 13, 14, 15, 16, 17, 18, 19], [0, 19])])
def carrackref00_CopyChanges.B5 : List Nat := [0, 0, 0, 6, 14, 30, 0, 0, 192, 448, 960, 1984, 0, 0, 12288, 28672, 61440, 131070, 262142, 524287, 1048575]
theorem carrackref00_CopyChanges.tab5 : rtab .any (opsOf Try.f15 5) = carrackref00_CopyChanges.T5 := by kernel_rfl
theorem carrackref00_CopyChanges.bits5 : waitsOk carrackref00_CopyChanges.T5.2 carrackref00_CopyChanges.B5 = true := by kernel_rfl
set_option maxHeartbeats 8000000 in
set_option maxRecDepth 100000 in
theorem carrackref00_CopyChanges.calls (k : Nat) (A0 : Option Addr) (c0 : Nat) (l0 : List (S53)) (r : List (S53)) (w : World) (hr0 : Kd.C k53 w A0 l0.length l0) (hc0 : l0.length ≤ c0) (h : carrackref00_CopyChanges.f k l0 = some r) :
    Calls Try.prog 15 #[.slice A0 l0.length c0] w fun e w' => ∃ v0_ : Value, e = .returned (v0_) ∧ Kd.S k53 53 w' w.heap.size (fun _ => True) v0_ r ∧ Below w.heap.size w w' := by
  have hu30 := Try.underlying30
  have hu53 := Try.underlying53
  have HR0 := Aside0.mk hr0
  have HC0 := Aside0.mk hc0
  clear hr0 hc0
  have HB := Aside0.mk (Below.refl w.heap.size w)
  have H : (carrackref00_CopyChanges.l0 k l0 ([] : List (S53)) 0) = some r := h
  clear h
  have H' := Aside0.mk H
  clear H
  go_enter Try.func15, Try.ntmps15
  go_wp2
  go_loopg [3, 4] k (fun kq v3 v4 w' => ∃ (x3_1 : List (S53)) (x4_1 : Int), v4 = .int .i64 x4_1 ∧ Aside0 (carrackref00_CopyChanges.l0 kq l0 x3_1 x4_1 = some r) ∧ Aside0 (kq ≤ k) ∧ Aside0 (Kd.S k53 53 w' w.heap.size (fun _ => True) v3 x3_1) ∧ Aside0 (Below w.heap.size w w'))
  case atStart => exact ⟨(([] : List (S53))), (0), (by first | rfl | (simp; done) | (simp [*]; done)), H', ⟨Nat.le_refl _⟩, ⟨by first | exact Kd.S_nil _ _ _ _ _ | exact Kd.N_nil _ _ _ _ _ | exact Kd.V_nil _ _ _ _ _ | exact Kd.Q_nil _ _ _ _ _ | exact Kd.R_nil _ _ _ _ _⟩, ⟨by repeat (first | (with_reducible first | exact HB.out | apply below_alloc | apply pw_below_drewN | apply below_drew1) | exact HB.out)⟩⟩
  case round =>
    clear H'
    try clear c1
    obtain ⟨x3_1, x4_1, rfl, HA, HK1, HO_3, HB⟩ := hrel
    cases gk with
    | zero => exact absurd HA.out (by simp [carrackref00_CopyChanges.l0])
    | succ k1 =>
      have H := HA.out
      clear HA
      simp only [carrackref00_CopyChanges.l0] at H
      by_cases c2 : x4_1 < (l0.length : Int)
      · rw [if_pos c2] at H
        have c2b0 : decide (x4_1 < (l0.length : Int)) = true := decide_eq_true c2
        clear c2
        by_cases c3 : 0 ≤ x4_1
        · rw [if_pos c3] at H
          have c3b0 : decide (0 ≤ x4_1) = true := decide_eq_true c3
          clear c3
          replace H := Option.bind_eq_some_iff.mp H
          obtain ⟨t114, A40, H⟩ := H
          replace H : (if x3_1.length < 1954687338268 then (carrackref00_CopyChanges.l0 k1 l0 (x3_1 ++ [(⟨(⟨(rd_T53 l0 x4_1).f0.f0, (rd_T53 l0 x4_1).f0.f1, (rd_T53 l0 x4_1).f0.f2, (rd_T53 l0 x4_1).f0.f3⟩ : S30), t114, (rd_T53 l0 x4_1).f2⟩ : S53)]) (wrap64 (x4_1 + 1))) else (none)) = some r := H
          have A4 := Aside0.mk A40
          clear A40
          by_cases c5 : x3_1.length < 1954687338268
          · rw [if_pos c5] at H
            have LMc5 := Aside0.mk c5
            clear c5
            obtain ⟨y118, hy118⟩ : ∃ y_ : List (S53), y_ = (x3_1 ++ [(⟨(⟨(rd_T53 l0 x4_1).f0.f0, (rd_T53 l0 x4_1).f0.f1, (rd_T53 l0 x4_1).f0.f2, (rd_T53 l0 x4_1).f0.f3⟩ : S30), t114, (rd_T53 l0 x4_1).f2⟩ : S53)]) := ⟨_, rfl⟩
            replace H : (carrackref00_CopyChanges.l0 k1 l0 y118 (wrap64 (x4_1 + 1))) = some r := by first | (rw [hy118]; with_reducible exact H) | (have H2_ := (Option.bind_some _ _).symm.trans H; rw [hy118]; with_reducible exact H2_) | (have H2_ := (Option.bind_some _ _).symm.trans H; with_reducible exact H2_) | with_reducible exact H | (rw [hy118]; exact H) | exact H
            have Ny118 := Aside0.mk hy118
            clear hy118
            have H' := Aside0.mk H
            clear H
            try go_wp2
            have n0_ := Aside0.mk (Kd.S_drew HO_3.out)
            have n1_ := Aside0.mk (below_drew1 HB.out)
            clear HO_3
            clear HB
            have HO_3 := n0_
            have HB := n1_
            clear n0_ n1_
            have p112 : 0 ≤ (x4_1 : Int) := of_decide_eq_true (by first | (with_reducible assumption) | assumption)
            have q112 : x4_1 < (l0.length : Int) := of_decide_eq_true (by first | (with_reducible assumption) | assumption)
            obtain ⟨ad112, A112_4, c112_4, e112, hx112_0, hx112_1, hx112_2, hx112_3, hx112_4, hx112_5, hl112_4, hi112_4⟩ := at_T53 HR0.out x4_1 p112 q112
            have hw112_5 := hx112_5
            have hw112_4 := hx112_4
            have hw112_3 := hx112_3
            have hw112_2 := hx112_2
            have hw112_1 := hx112_1
            have hw112_0 := hx112_0
            cases e112
            replace hx112_0 := (HB.out.cell (World.block_lt_of_cell? w _ hx112_0)).trans hx112_0
            replace hx112_1 := (HB.out.cell (World.block_lt_of_cell? w _ hx112_1)).trans hx112_1
            replace hx112_2 := (HB.out.cell (World.block_lt_of_cell? w _ hx112_2)).trans hx112_2
            replace hx112_3 := (HB.out.cell (World.block_lt_of_cell? w _ hx112_3)).trans hx112_3
            replace hx112_4 := (HB.out.cell (World.block_lt_of_cell? w _ hx112_4)).trans hx112_4
            replace hx112_5 := (HB.out.cell (World.block_lt_of_cell? w _ hx112_5)).trans hx112_5
            have HR112_4 := Aside0.mk hi112_4
            have HC112_4 := Aside0.mk hl112_4
            clear hi112_4 hl112_4
            replace p112 := eq_true p112
            replace q112 := eq_true q112
            have p113 : 0 ≤ (x4_1 : Int) := of_decide_eq_true (by first | (with_reducible assumption) | assumption)
            have q113 : x4_1 < (l0.length : Int) := of_decide_eq_true (by first | (with_reducible assumption) | assumption)
            obtain ⟨ad113, A113_4, c113_4, e113, hx113_0, hx113_1, hx113_2, hx113_3, hx113_4, hx113_5, hl113_4, hi113_4⟩ := at_T53 HR0.out x4_1 p113 q113
            have hw113_5 := hx113_5
            have hw113_4 := hx113_4
            have hw113_3 := hx113_3
            have hw113_2 := hx113_2
            have hw113_1 := hx113_1
            have hw113_0 := hx113_0
            obtain rfl : ad112 = ad113 := (by injection e113)
            replace hx113_0 := (HB.out.cell (World.block_lt_of_cell? w _ hx113_0)).trans hx113_0
            replace hx113_1 := (HB.out.cell (World.block_lt_of_cell? w _ hx113_1)).trans hx113_1
            replace hx113_2 := (HB.out.cell (World.block_lt_of_cell? w _ hx113_2)).trans hx113_2
            replace hx113_3 := (HB.out.cell (World.block_lt_of_cell? w _ hx113_3)).trans hx113_3
            replace hx113_4 := (HB.out.cell (World.block_lt_of_cell? w _ hx113_4)).trans hx113_4
            replace hx113_5 := (HB.out.cell (World.block_lt_of_cell? w _ hx113_5)).trans hx113_5
            have HR113_4 := Aside0.mk hi113_4
            have HC113_4 := Aside0.mk hl113_4
            clear hi113_4 hl113_4
            replace p113 := eq_true p113
            replace q113 := eq_true q113
            have ea_ := Option.some.inj (hx112_4.symm.trans hx113_4)
            injection ea_ with ea_ en_ ec_
            subst ea_
            subst ec_
            clear en_
            have p117 : 0 ≤ (x4_1 : Int) := of_decide_eq_true (by first | (with_reducible assumption) | assumption)
            have q117 : x4_1 < (l0.length : Int) := of_decide_eq_true (by first | (with_reducible assumption) | assumption)
            obtain ⟨ad117, A117_4, c117_4, e117, hx117_0, hx117_1, hx117_2, hx117_3, hx117_4, hx117_5, hl117_4, hi117_4⟩ := at_T53 HR0.out x4_1 p117 q117
            have hw117_5 := hx117_5
            have hw117_4 := hx117_4
            have hw117_3 := hx117_3
            have hw117_2 := hx117_2
            have hw117_1 := hx117_1
            have hw117_0 := hx117_0
            obtain rfl : ad112 = ad117 := (by injection e117)
            replace hx117_0 := (HB.out.cell (World.block_lt_of_cell? w _ hx117_0)).trans hx117_0
            replace hx117_1 := (HB.out.cell (World.block_lt_of_cell? w _ hx117_1)).trans hx117_1
            replace hx117_2 := (HB.out.cell (World.block_lt_of_cell? w _ hx117_2)).trans hx117_2
            replace hx117_3 := (HB.out.cell (World.block_lt_of_cell? w _ hx117_3)).trans hx117_3
            replace hx117_4 := (HB.out.cell (World.block_lt_of_cell? w _ hx117_4)).trans hx117_4
            replace hx117_5 := (HB.out.cell (World.block_lt_of_cell? w _ hx117_5)).trans hx117_5
            have HR117_4 := Aside0.mk hi117_4
            have HC117_4 := Aside0.mk hl117_4
            clear hi117_4 hl117_4
            replace p117 := eq_true p117
            replace q117 := eq_true q117
            have ea_ := Option.some.inj (hx112_4.symm.trans hx117_4)
            injection ea_ with ea_ en_ ec_
            subst ea_
            subst ec_
            clear en_
            refine start_ (n := 21) (S := fun w' => w'.cell? (ad112.add ((x4_1).toNat * 6)) = some (.int .i64 ((rd_T53 l0 x4_1).f0.f0)) ∧ w'.cell? ⟨(ad112.add ((x4_1).toNat * 6)).block, (ad112.add ((x4_1).toNat * 6)).off + 1, none⟩ = some (.int .u8 ((rd_T53 l0 x4_1).f0.f1)) ∧ w'.cell? ⟨(ad112.add ((x4_1).toNat * 6)).block, (ad112.add ((x4_1).toNat * 6)).off + 2, none⟩ = some (.string ((rd_T53 l0 x4_1).f0.f2)) ∧ w'.cell? ⟨(ad112.add ((x4_1).toNat * 6)).block, (ad112.add ((x4_1).toNat * 6)).off + 3, none⟩ = some (.int .i64 ((rd_T53 l0 x4_1).f0.f3)) ∧ w'.cell? ⟨(ad112.add ((x4_1).toNat * 6)).block, (ad112.add ((x4_1).toNat * 6)).off + 4, none⟩ = some (.slice A112_4 ((rd_T53 l0 x4_1).f1).length c112_4) ∧ w'.cell? ⟨(ad112.add ((x4_1).toNat * 6)).block, (ad112.add ((x4_1).toNat * 6)).off + 5, none⟩ = some (.bool ((rd_T53 l0 x4_1).f2)) ∧ w'.cell? (ad112.add ((x4_1).toNat * 6)) = some (.int .i64 ((rd_T53 l0 x4_1).f0.f0)) ∧ w'.cell? ⟨(ad112.add ((x4_1).toNat * 6)).block, (ad112.add ((x4_1).toNat * 6)).off + 1, none⟩ = some (.int .u8 ((rd_T53 l0 x4_1).f0.f1)) ∧ w'.cell? ⟨(ad112.add ((x4_1).toNat * 6)).block, (ad112.add ((x4_1).toNat * 6)).off + 2, none⟩ = some (.string ((rd_T53 l0 x4_1).f0.f2)) ∧ w'.cell? ⟨(ad112.add ((x4_1).toNat * 6)).block, (ad112.add ((x4_1).toNat * 6)).off + 3, none⟩ = some (.int .i64 ((rd_T53 l0 x4_1).f0.f3)) ∧ w'.cell? ⟨(ad112.add ((x4_1).toNat * 6)).block, (ad112.add ((x4_1).toNat * 6)).off + 4, none⟩ = some (.slice A112_4 ((rd_T53 l0 x4_1).f1).length c112_4) ∧ w'.cell? ⟨(ad112.add ((x4_1).toNat * 6)).block, (ad112.add ((x4_1).toNat * 6)).off + 5, none⟩ = some (.bool ((rd_T53 l0 x4_1).f2)) ∧ w'.cell? (ad112.add ((x4_1).toNat * 6)) = some (.int .i64 ((rd_T53 l0 x4_1).f0.f0)) ∧ w'.cell? ⟨(ad112.add ((x4_1).toNat * 6)).block, (ad112.add ((x4_1).toNat * 6)).off + 1, none⟩ = some (.int .u8 ((rd_T53 l0 x4_1).f0.f1)) ∧ w'.cell? ⟨(ad112.add ((x4_1).toNat * 6)).block, (ad112.add ((x4_1).toNat * 6)).off + 2, none⟩ = some (.string ((rd_T53 l0 x4_1).f0.f2)) ∧ w'.cell? ⟨(ad112.add ((x4_1).toNat * 6)).block, (ad112.add ((x4_1).toNat * 6)).off + 3, none⟩ = some (.int .i64 ((rd_T53 l0 x4_1).f0.f3)) ∧ w'.cell? ⟨(ad112.add ((x4_1).toNat * 6)).block, (ad112.add ((x4_1).toNat * 6)).off + 4, none⟩ = some (.slice A112_4 ((rd_T53 l0 x4_1).f1).length c112_4) ∧ w'.cell? ⟨(ad112.add ((x4_1).toNat * 6)).block, (ad112.add ((x4_1).toNat * 6)).off + 5, none⟩ = some (.bool ((rd_T53 l0 x4_1).f2))) (ds := []) #[false, false, false, false, false, false, false, false, false, false, false, false, false, false, false, false, false, false, false, false, false] (by kernel_rfl) rfl rfl ⟨((HB.out.cell (World.block_lt_of_cell? w _ hw112_0)).trans hw112_0), ((HB.out.cell (World.block_lt_of_cell? w _ hw112_1)).trans hw112_1), ((HB.out.cell (World.block_lt_of_cell? w _ hw112_2)).trans hw112_2), ((HB.out.cell (World.block_lt_of_cell? w _ hw112_3)).trans hw112_3), ((HB.out.cell (World.block_lt_of_cell? w _ hw112_4)).trans hw112_4), ((HB.out.cell (World.block_lt_of_cell? w _ hw112_5)).trans hw112_5), ((HB.out.cell (World.block_lt_of_cell? w _ hw113_0)).trans hw113_0), ((HB.out.cell (World.block_lt_of_cell? w _ hw113_1)).trans hw113_1), ((HB.out.cell (World.block_lt_of_cell? w _ hw113_2)).trans hw113_2), ((HB.out.cell (World.block_lt_of_cell? w _ hw113_3)).trans hw113_3), ((HB.out.cell (World.block_lt_of_cell? w _ hw113_4)).trans hw113_4), ((HB.out.cell (World.block_lt_of_cell? w _ hw113_5)).trans hw113_5), ((HB.out.cell (World.block_lt_of_cell? w _ hw117_0)).trans hw117_0), ((HB.out.cell (World.block_lt_of_cell? w _ hw117_1)).trans hw117_1), ((HB.out.cell (World.block_lt_of_cell? w _ hw117_2)).trans hw117_2), ((HB.out.cell (World.block_lt_of_cell? w _ hw117_3)).trans hw117_3), ((HB.out.cell (World.block_lt_of_cell? w _ hw117_4)).trans hw117_4), ((HB.out.cell (World.block_lt_of_cell? w _ hw117_5)).trans hw117_5)⟩ (fun hHeld => ?_); refine with_tabW carrackref00_CopyChanges.tab5 carrackref00_CopyChanges.bits5 (fun HT_ HW_ => ?_)
            generalize wr.drew = w6 at HO_3 HB HR112_4 HR113_4 HR117_4 hx112_0 hx112_1 hx112_2 hx112_3 hx112_4 hx112_5 hx113_0 hx113_1 hx113_2 hx113_3 hx113_4 hx113_5 hx117_0 hx117_1 hx117_2 hx117_3 hx117_4 hx117_5 hHeld ⊢
            refine pure_ (i := 0) (N := some 11) (v := ?_) (a' := ?_) #[true, false, false, false, false, false, false, false, false, false, false, false, false, false, false, false, false, false, false, false, false] rfl rfl (any_of HT_.out (by kernel_rfl)) (fun _ _ _ h => h) (Or.inl ⟨by rfl, ?_⟩) ?_ ?_
            rotate_left
            · intro w'
              go_simp
              with_reducible rfl
            rotate_left
            · simp only [Act.put, List.setIfInBounds_toArray, List.set_cons_zero, List.set_cons_succ, i64_w, i32_w]
              rfl
            refine pure_ (i := 1) (N := some 12) (v := ?_) (a' := ?_) #[true, true, false, false, false, false, false, false, false, false, false, false, false, false, false, false, false, false, false, false, false] rfl rfl (any_of HT_.out (by kernel_rfl)) (fun _ _ _ h => h) (Or.inl ⟨by rfl, ?_⟩) ?_ ?_
            rotate_left
            · intro w'
              go_simp
              with_reducible rfl
            rotate_left
            · simp only [Act.put, List.setIfInBounds_toArray, List.set_cons_zero, List.set_cons_succ, i64_w, i32_w]
              rfl
            refine pure_ (i := 2) (N := some 13) (v := ?_) (a' := ?_) #[true, true, true, false, false, false, false, false, false, false, false, false, false, false, false, false, false, false, false, false, false] rfl rfl (any_of HT_.out (by kernel_rfl)) (fun _ _ _ h => h) (Or.inl ⟨by rfl, ?_⟩) ?_ ?_
            rotate_left
            · intro w'
              go_simp
              with_reducible rfl
            rotate_left
            · simp only [Act.put, List.setIfInBounds_toArray, List.set_cons_zero, List.set_cons_succ, i64_w, i32_w]
              rfl
            refine pure_ (i := 3) (N := some 14) (v := ?_) (a' := ?_) #[true, true, true, true, false, false, false, false, false, false, false, false, false, false, false, false, false, false, false, false, false] rfl rfl (any_of HT_.out (by kernel_rfl)) (fun _ _ _ h => h) (Or.inl ⟨by rfl, ?_⟩) ?_ ?_
            rotate_left
            · intro w'
              go_simp
              with_reducible rfl
            rotate_left
            · simp only [Act.put, List.setIfInBounds_toArray, List.set_cons_zero, List.set_cons_succ, i64_w, i32_w]
              rfl
            refine pure_ (i := 4) (N := some 15) (v := ?_) (a' := ?_) #[true, true, true, true, true, false, false, false, false, false, false, false, false, false, false, false, false, false, false, false, false] rfl rfl (any_of HT_.out (by kernel_rfl)) (fun _ _ _ h => h) (Or.inl ⟨by rfl, ?_⟩) ?_ ?_
            rotate_left
            · intro w'
              go_simp
              with_reducible rfl
            rotate_left
            · simp only [Act.put, List.setIfInBounds_toArray, List.set_cons_zero, List.set_cons_succ, i64_w, i32_w]
              rfl
            refine pure_ (i := 6) (N := some 17) (v := ?_) (a' := ?_) #[true, true, true, true, true, false, true, false, false, false, false, false, false, false, false, false, false, false, false, false, false] rfl rfl (any_of HT_.out (by kernel_rfl)) (fun _ _ _ h => h) (Or.inl ⟨by rfl, ?_⟩) ?_ ?_
            rotate_left
            · intro w'
              go_simp
              with_reducible rfl
            rotate_left
            · simp only [Act.put, List.setIfInBounds_toArray, List.set_cons_zero, List.set_cons_succ, i64_w, i32_w]
              rfl
            refine pure_ (i := 7) (N := some 18) (v := ?_) (a' := ?_) #[true, true, true, true, true, false, true, true, false, false, false, false, false, false, false, false, false, false, false, false, false] rfl rfl (any_of HT_.out (by kernel_rfl)) (fun _ _ _ h => h) (Or.inl ⟨by rfl, ?_⟩) ?_ ?_
            rotate_left
            · intro w'
              go_simp
              with_reducible rfl
            rotate_left
            · simp only [Act.put, List.setIfInBounds_toArray, List.set_cons_zero, List.set_cons_succ, i64_w, i32_w]
              rfl
            refine pure_ (i := 8) (N := some 19) (v := ?_) (a' := ?_) #[true, true, true, true, true, false, true, true, true, false, false, false, false, false, false, false, false, false, false, false, false] rfl rfl (any_of HT_.out (by kernel_rfl)) (fun _ _ _ h => h) (Or.inl ⟨by rfl, ?_⟩) ?_ ?_
            rotate_left
            · intro w'
              go_simp
              with_reducible rfl
            rotate_left
            · simp only [Act.put, List.setIfInBounds_toArray, List.set_cons_zero, List.set_cons_succ, i64_w, i32_w]
              rfl
            refine pure_ (i := 9) (N := some 20) (v := ?_) (a' := ?_) #[true, true, true, true, true, false, true, true, true, true, false, false, false, false, false, false, false, false, false, false, false] rfl rfl (any_of HT_.out (by kernel_rfl)) (fun _ _ _ h => h) (Or.inl ⟨by rfl, ?_⟩) ?_ ?_
            rotate_left
            · intro w'
              go_simp
              with_reducible rfl
            rotate_left
            · simp only [Act.put, List.setIfInBounds_toArray, List.set_cons_zero, List.set_cons_succ, i64_w, i32_w]
              rfl
            refine pure_ (i := 12) (N := some 23) (v := ?_) (a' := ?_) #[true, true, true, true, true, false, true, true, true, true, false, false, true, false, false, false, false, false, false, false, false] rfl rfl (any_of HT_.out (by kernel_rfl)) (fun _ _ _ h => h) (Or.inl ⟨by rfl, ?_⟩) ?_ ?_
            rotate_left
            · intro w'
              go_simp
              with_reducible rfl
            rotate_left
            · simp only [Act.put, List.setIfInBounds_toArray, List.set_cons_zero, List.set_cons_succ, i64_w, i32_w]
              rfl
            refine pure_ (i := 13) (N := some 24) (v := ?_) (a' := ?_) #[true, true, true, true, true, false, true, true, true, true, false, false, true, true, false, false, false, false, false, false, false] rfl rfl (any_of HT_.out (by kernel_rfl)) (fun _ _ _ h => h) (Or.inl ⟨by rfl, ?_⟩) ?_ ?_
            rotate_left
            · intro w'
              go_simp
              with_reducible rfl
            rotate_left
            · simp only [Act.put, List.setIfInBounds_toArray, List.set_cons_zero, List.set_cons_succ, i64_w, i32_w]
              rfl
            refine pure_ (i := 14) (N := some 25) (v := ?_) (a' := ?_) #[true, true, true, true, true, false, true, true, true, true, false, false, true, true, true, false, false, false, false, false, false] rfl rfl (any_of HT_.out (by kernel_rfl)) (fun _ _ _ h => h) (Or.inl ⟨by rfl, ?_⟩) ?_ ?_
            rotate_left
            · intro w'
              go_simp
              with_reducible rfl
            rotate_left
            · simp only [Act.put, List.setIfInBounds_toArray, List.set_cons_zero, List.set_cons_succ, i64_w, i32_w]
              rfl
            refine pure_ (i := 15) (N := some 26) (v := ?_) (a' := ?_) #[true, true, true, true, true, false, true, true, true, true, false, false, true, true, true, true, false, false, false, false, false] rfl rfl (any_of HT_.out (by kernel_rfl)) (fun _ _ _ h => h) (Or.inl ⟨by rfl, ?_⟩) ?_ ?_
            rotate_left
            · intro w'
              go_simp
              with_reducible rfl
            rotate_left
            · simp only [Act.put, List.setIfInBounds_toArray, List.set_cons_zero, List.set_cons_succ, i64_w, i32_w]
              rfl
            refine take_ (i := 5) (N := some 16) (v := ?_) (a' := ?_) #[true, true, true, true, true, true, true, true, true, true, false, false, true, true, true, true, false, false, false, false, false] rfl rfl (take_ofW HT_.out HW_.out (by kernel_rfl)) (fun _ _ _ h => h) (Or.inl ⟨by rfl, ?_⟩) hHeld ?_ ?_
            rotate_left
            · rintro w' ⟨s0, s1, s2, s3, s4, s5, s6, s7, s8, s9, s10, s11, s12, s13, s14, s15, s16, s17⟩
              go_simp
              with_reducible rfl
            rotate_left
            · simp only [Act.put, List.setIfInBounds_toArray, List.set_cons_zero, List.set_cons_succ, i64_w, i32_w]
              rfl
            refine take_ (i := 10) (N := some 21) (v := ?_) (a' := ?_) #[true, true, true, true, true, true, true, true, true, true, true, false, true, true, true, true, false, false, false, false, false] rfl rfl (take_ofW HT_.out HW_.out (by kernel_rfl)) (fun _ _ _ h => h) (Or.inl ⟨by rfl, ?_⟩) hHeld ?_ ?_
            rotate_left
            · rintro w' ⟨s0, s1, s2, s3, s4, s5, s6, s7, s8, s9, s10, s11, s12, s13, s14, s15, s16, s17⟩
              go_simp
              with_reducible rfl
            rotate_left
            · simp only [Act.put, List.setIfInBounds_toArray, List.set_cons_zero, List.set_cons_succ, i64_w, i32_w]
              rfl
            refine take_ (i := 16) (N := some 27) (v := ?_) (a' := ?_) #[true, true, true, true, true, true, true, true, true, true, true, false, true, true, true, true, true, false, false, false, false] rfl rfl (take_ofW HT_.out HW_.out (by kernel_rfl)) (fun _ _ _ h => h) (Or.inl ⟨by rfl, ?_⟩) hHeld ?_ ?_
            rotate_left
            · rintro w' ⟨s0, s1, s2, s3, s4, s5, s6, s7, s8, s9, s10, s11, s12, s13, s14, s15, s16, s17⟩
              go_simp
              with_reducible rfl
            rotate_left
            · simp only [Act.put, List.setIfInBounds_toArray, List.set_cons_zero, List.set_cons_succ, i64_w, i32_w]
              rfl
            refine one_ (i := 11) (N := some 22) #[true, true, true, true, true, true, true, true, true, true, true, true, true, true, true, true, true, false, false, false, false] rfl rfl (one_of HT_.out (by kernel_rfl)) (by decide) (fun K hK => ?_)
            refine goes_ Try.func8 (by kernel_rfl) rfl #[.slice A112_4 ((rd_T53 l0 x4_1).f1).length c112_4] (by rfl) rfl rfl (by (try simp only [List.map_toArray, List.map_cons, List.map_nil]); first | done | rfl | (simp only [List.length_drop, List.length_take]; rfl)) ?_
            with_reducible refine (carrackref00_Copy.calls _ _ ((rd_T53 l0 x4_1).f1) t114 _ ?side1 ?side2 A4.out).mono ?_
            (case side1 => repeat (first | exact (Kd.C_below HR113_4.out HB.out) | (with_reducible refine Kd.C_alloc ?_ _) | (with_reducible refine Kd.C_drewN ?_ _) | (with_reducible refine Kd.C_drew ?_)))
            (case side2 => exact HC113_4.out)
            rintro e w7 ⟨v115, rfl, ho0, hb⟩
            refine ⟨_, rfl, ?_⟩
            have n0_ := Aside0.mk (Kd.S_elder' (by (with_reducible repeat (first | apply Kd.S_alloc | apply Kd.S_drewN | apply Kd.S_drew)); exact HO_3.out) (Kd.R_base ho0) hb)
            have n1_ := Aside0.mk (Kd.R_lower ho0 (below_size (by repeat (first | (with_reducible first | exact HB.out | apply below_alloc | apply pw_below_drewN | apply below_drew1) | exact HB.out))))
            have n2_ := Aside0.mk (below_step (by repeat (first | (with_reducible first | exact HB.out | apply below_alloc | apply pw_below_drewN | apply below_drew1) | exact HB.out)) hb)
            clear HO_3
            clear HB
            have HO_3 := n0_
            have HO116 := n1_
            have HB := n2_
            clear n0_ n1_ n2_
            (try clear hb)
            (try clear hb2)
            (try clear hk)
            (try clear hi)
            (try clear ho0)
            obtain ⟨Ao8, co8, eo8⟩ := Kd.R_slice HO116.out
            (first | subst eo8 | (injection eo8 with f1_ f2_ f3_; have f4_ := f1_.symm; have f5_ := f3_.symm; clear f1_ f2_ f3_; subst f4_; subst f5_))
            refine hK.out _ _ ⟨((HB.out.cell (World.block_lt_of_cell? w _ hw112_0)).trans hw112_0), ((HB.out.cell (World.block_lt_of_cell? w _ hw112_1)).trans hw112_1), ((HB.out.cell (World.block_lt_of_cell? w _ hw112_2)).trans hw112_2), ((HB.out.cell (World.block_lt_of_cell? w _ hw112_3)).trans hw112_3), ((HB.out.cell (World.block_lt_of_cell? w _ hw112_4)).trans hw112_4), ((HB.out.cell (World.block_lt_of_cell? w _ hw112_5)).trans hw112_5), ((HB.out.cell (World.block_lt_of_cell? w _ hw113_0)).trans hw113_0), ((HB.out.cell (World.block_lt_of_cell? w _ hw113_1)).trans hw113_1), ((HB.out.cell (World.block_lt_of_cell? w _ hw113_2)).trans hw113_2), ((HB.out.cell (World.block_lt_of_cell? w _ hw113_3)).trans hw113_3), ((HB.out.cell (World.block_lt_of_cell? w _ hw113_4)).trans hw113_4), ((HB.out.cell (World.block_lt_of_cell? w _ hw113_5)).trans hw113_5), ((HB.out.cell (World.block_lt_of_cell? w _ hw117_0)).trans hw117_0), ((HB.out.cell (World.block_lt_of_cell? w _ hw117_1)).trans hw117_1), ((HB.out.cell (World.block_lt_of_cell? w _ hw117_2)).trans hw117_2), ((HB.out.cell (World.block_lt_of_cell? w _ hw117_3)).trans hw117_3), ((HB.out.cell (World.block_lt_of_cell? w _ hw117_4)).trans hw117_4), ((HB.out.cell (World.block_lt_of_cell? w _ hw117_5)).trans hw117_5)⟩ (fun hHeld => ?_)
            clear hK K
            refine norm_ (a' := ?_) ?_ ?_
            rotate_left
            · show Act.put _ (some 22) _ = _
              simp only [Act.put, List.setIfInBounds_toArray, List.set_cons_zero, List.set_cons_succ, i64_w, i32_w]
              rfl
            refine pure_ (i := 17) (N := some 28) (v := ?_) (a' := ?_) #[true, true, true, true, true, true, true, true, true, true, true, true, true, true, true, true, true, true, false, false, false] rfl rfl (any_of HT_.out (by kernel_rfl)) (fun _ _ _ h => h) (Or.inl ⟨by rfl, ?_⟩) ?_ ?_
            rotate_left
            · intro w'
              go_simp
              with_reducible rfl
            rotate_left
            · simp only [Act.put, List.setIfInBounds_toArray, List.set_cons_zero, List.set_cons_succ, i64_w, i32_w]
              rfl
            refine one_ (i := 18) (N := some 29) #[true, true, true, true, true, true, true, true, true, true, true, true, true, true, true, true, true, true, true, false, false] rfl rfl (one_of HT_.out (by kernel_rfl)) (by decide) (fun K hK => ?_)
            refine value_ (w1 := ?_) (v := ?_) (by rfl) rfl ?_ ?_
            rotate_left 2
            · go_simp
              constructor
              · rfl
              · rfl
            refine hK.out _ _ ⟨(World.cell?_alloc_lt _ _ _ (World.block_lt_of_cell? _ _ (((HB.out.cell (World.block_lt_of_cell? w _ hw112_0)).trans hw112_0)))).trans (((HB.out.cell (World.block_lt_of_cell? w _ hw112_0)).trans hw112_0)), (World.cell?_alloc_lt _ _ _ (World.block_lt_of_cell? _ _ (((HB.out.cell (World.block_lt_of_cell? w _ hw112_1)).trans hw112_1)))).trans (((HB.out.cell (World.block_lt_of_cell? w _ hw112_1)).trans hw112_1)), (World.cell?_alloc_lt _ _ _ (World.block_lt_of_cell? _ _ (((HB.out.cell (World.block_lt_of_cell? w _ hw112_2)).trans hw112_2)))).trans (((HB.out.cell (World.block_lt_of_cell? w _ hw112_2)).trans hw112_2)), (World.cell?_alloc_lt _ _ _ (World.block_lt_of_cell? _ _ (((HB.out.cell (World.block_lt_of_cell? w _ hw112_3)).trans hw112_3)))).trans (((HB.out.cell (World.block_lt_of_cell? w _ hw112_3)).trans hw112_3)), (World.cell?_alloc_lt _ _ _ (World.block_lt_of_cell? _ _ (((HB.out.cell (World.block_lt_of_cell? w _ hw112_4)).trans hw112_4)))).trans (((HB.out.cell (World.block_lt_of_cell? w _ hw112_4)).trans hw112_4)), (World.cell?_alloc_lt _ _ _ (World.block_lt_of_cell? _ _ (((HB.out.cell (World.block_lt_of_cell? w _ hw112_5)).trans hw112_5)))).trans (((HB.out.cell (World.block_lt_of_cell? w _ hw112_5)).trans hw112_5)), (World.cell?_alloc_lt _ _ _ (World.block_lt_of_cell? _ _ (((HB.out.cell (World.block_lt_of_cell? w _ hw113_0)).trans hw113_0)))).trans (((HB.out.cell (World.block_lt_of_cell? w _ hw113_0)).trans hw113_0)), (World.cell?_alloc_lt _ _ _ (World.block_lt_of_cell? _ _ (((HB.out.cell (World.block_lt_of_cell? w _ hw113_1)).trans hw113_1)))).trans (((HB.out.cell (World.block_lt_of_cell? w _ hw113_1)).trans hw113_1)), (World.cell?_alloc_lt _ _ _ (World.block_lt_of_cell? _ _ (((HB.out.cell (World.block_lt_of_cell? w _ hw113_2)).trans hw113_2)))).trans (((HB.out.cell (World.block_lt_of_cell? w _ hw113_2)).trans hw113_2)), (World.cell?_alloc_lt _ _ _ (World.block_lt_of_cell? _ _ (((HB.out.cell (World.block_lt_of_cell? w _ hw113_3)).trans hw113_3)))).trans (((HB.out.cell (World.block_lt_of_cell? w _ hw113_3)).trans hw113_3)), (World.cell?_alloc_lt _ _ _ (World.block_lt_of_cell? _ _ (((HB.out.cell (World.block_lt_of_cell? w _ hw113_4)).trans hw113_4)))).trans (((HB.out.cell (World.block_lt_of_cell? w _ hw113_4)).trans hw113_4)), (World.cell?_alloc_lt _ _ _ (World.block_lt_of_cell? _ _ (((HB.out.cell (World.block_lt_of_cell? w _ hw113_5)).trans hw113_5)))).trans (((HB.out.cell (World.block_lt_of_cell? w _ hw113_5)).trans hw113_5)), (World.cell?_alloc_lt _ _ _ (World.block_lt_of_cell? _ _ (((HB.out.cell (World.block_lt_of_cell? w _ hw117_0)).trans hw117_0)))).trans (((HB.out.cell (World.block_lt_of_cell? w _ hw117_0)).trans hw117_0)), (World.cell?_alloc_lt _ _ _ (World.block_lt_of_cell? _ _ (((HB.out.cell (World.block_lt_of_cell? w _ hw117_1)).trans hw117_1)))).trans (((HB.out.cell (World.block_lt_of_cell? w _ hw117_1)).trans hw117_1)), (World.cell?_alloc_lt _ _ _ (World.block_lt_of_cell? _ _ (((HB.out.cell (World.block_lt_of_cell? w _ hw117_2)).trans hw117_2)))).trans (((HB.out.cell (World.block_lt_of_cell? w _ hw117_2)).trans hw117_2)), (World.cell?_alloc_lt _ _ _ (World.block_lt_of_cell? _ _ (((HB.out.cell (World.block_lt_of_cell? w _ hw117_3)).trans hw117_3)))).trans (((HB.out.cell (World.block_lt_of_cell? w _ hw117_3)).trans hw117_3)), (World.cell?_alloc_lt _ _ _ (World.block_lt_of_cell? _ _ (((HB.out.cell (World.block_lt_of_cell? w _ hw117_4)).trans hw117_4)))).trans (((HB.out.cell (World.block_lt_of_cell? w _ hw117_4)).trans hw117_4)), (World.cell?_alloc_lt _ _ _ (World.block_lt_of_cell? _ _ (((HB.out.cell (World.block_lt_of_cell? w _ hw117_5)).trans hw117_5)))).trans (((HB.out.cell (World.block_lt_of_cell? w _ hw117_5)).trans hw117_5))⟩ (fun hHeld => ?_)
            clear hK K
            refine norm_ (a' := ?_) ?_ ?_
            rotate_left
            · show Act.put _ (some 29) _ = _
              simp only [Act.put, List.setIfInBounds_toArray, List.set_cons_zero, List.set_cons_succ, i64_w, i32_w]
              rfl
            refine one_ (i := 19) (N := some 30) #[true, true, true, true, true, true, true, true, true, true, true, true, true, true, true, true, true, true, true, true, false] rfl rfl (one_of HT_.out (by kernel_rfl)) (by decide) (fun K hK => ?_)
            refine Kd.S_append_step k53 (w0 := w) w.heap.size (by rfl) (.tmp 11) (.tmp 29) 39 53 (.agg #[(.int .i64 0), (.int .u8 0), (.string ⟨#[]⟩), (.int .i64 0), (.slice none 0 0), (.bool false)]) 72 rfl Try.underlying39 info53 rfl (by decide) (by omega) u3 x3_1 (⟨(⟨(rd_T53 l0 x4_1).f0.f0, (rd_T53 l0 x4_1).f0.f1, (rd_T53 l0 x4_1).f0.f2, (rd_T53 l0 x4_1).f0.f3⟩ : S30), t114, (rd_T53 l0 x4_1).f2⟩ : S53) [.int .i64 ((rd_T53 l0 x4_1).f0.f0), .int .u8 ((rd_T53 l0 x4_1).f0.f1), .string ((rd_T53 l0 x4_1).f0.f2), .int .i64 ((rd_T53 l0 x4_1).f0.f3), .slice Ao8 t114.length co8, .bool ((rd_T53 l0 x4_1).f2)] (fun _ => True) (fun k_ => some k_ = (.slice Ao8 t114.length co8 : Value).ownBlock) rfl rfl ?aP (fun k_ hk_ => ((Kd.R_mono (ok' := fun k_ => ((fun _ => True)) k_ ∧ some k_ ≠ (u3 : Value).ownBlock) (Kd.R_apart' (HO116.out) (Kd.S_typed HO_3.out) (by decide)) (fun k_ hk => ⟨trivial, hk.2⟩))).1 k_ hk_.symm) ?aF ?aO ?aB ?aS ?aL ?_
            (case aP => exact k53_mkM _ _ _ (⟨(⟨(rd_T53 l0 x4_1).f0.f0, (rd_T53 l0 x4_1).f0.f1, (rd_T53 l0 x4_1).f0.f2, (rd_T53 l0 x4_1).f0.f3⟩ : S30), t114, (rd_T53 l0 x4_1).f2⟩ : S53) (Kd.R_mono (Kd.R_tight rfl (Kd.R_mono (ok' := fun k_ => ((fun _ => True)) k_ ∧ some k_ ≠ (u3 : Value).ownBlock) (Kd.R_apart' (HO116.out) (Kd.S_typed HO_3.out) (by decide)) (fun k_ hk => ⟨trivial, hk.2⟩))) (fun _ h_ => h_)))
            (case aB => exact (by repeat (first | (with_reducible first | exact HB.out | apply below_alloc | apply pw_below_drewN | apply below_drew1) | exact HB.out)))
            (case aF => exact (fun _ _ => trivial))
            (case aO => exact (by (with_reducible repeat (first | apply Kd.S_alloc | apply Kd.S_drewN | apply Kd.S_drew)); exact Kd.S_mono HO_3.out (fun k_ hk => ⟨trivial, fun e_ => hk.2 e_⟩)))
            (case aS => exact (below_size (by repeat (first | (with_reducible first | exact HB.out | apply below_alloc | apply pw_below_drewN | apply below_drew1) | exact HB.out))))
            (case aL => have := LMc5.out; omega)
            intro v119 w9 ho hb hg hat
            rw [← Ny118.out] at ho
            have n0_ := Aside0.mk (hb)
            have n1_ := Aside0.mk (ho)
            clear HB
            clear HO_3
            clear HO116
            have HB := n0_
            have HO120 := n1_
            clear n0_ n1_
            clear ho hb hg hat
            refine hK.out _ _ ⟨((HB.out.cell (World.block_lt_of_cell? w _ hw112_0)).trans hw112_0), ((HB.out.cell (World.block_lt_of_cell? w _ hw112_1)).trans hw112_1), ((HB.out.cell (World.block_lt_of_cell? w _ hw112_2)).trans hw112_2), ((HB.out.cell (World.block_lt_of_cell? w _ hw112_3)).trans hw112_3), ((HB.out.cell (World.block_lt_of_cell? w _ hw112_4)).trans hw112_4), ((HB.out.cell (World.block_lt_of_cell? w _ hw112_5)).trans hw112_5), ((HB.out.cell (World.block_lt_of_cell? w _ hw113_0)).trans hw113_0), ((HB.out.cell (World.block_lt_of_cell? w _ hw113_1)).trans hw113_1), ((HB.out.cell (World.block_lt_of_cell? w _ hw113_2)).trans hw113_2), ((HB.out.cell (World.block_lt_of_cell? w _ hw113_3)).trans hw113_3), ((HB.out.cell (World.block_lt_of_cell? w _ hw113_4)).trans hw113_4), ((HB.out.cell (World.block_lt_of_cell? w _ hw113_5)).trans hw113_5), ((HB.out.cell (World.block_lt_of_cell? w _ hw117_0)).trans hw117_0), ((HB.out.cell (World.block_lt_of_cell? w _ hw117_1)).trans hw117_1), ((HB.out.cell (World.block_lt_of_cell? w _ hw117_2)).trans hw117_2), ((HB.out.cell (World.block_lt_of_cell? w _ hw117_3)).trans hw117_3), ((HB.out.cell (World.block_lt_of_cell? w _ hw117_4)).trans hw117_4), ((HB.out.cell (World.block_lt_of_cell? w _ hw117_5)).trans hw117_5)⟩ (fun hHeld => ?_)
            clear hK K
            refine norm_ (a' := ?_) ?_ ?_
            rotate_left
            · show Act.put _ (some 30) _ = _
              simp only [Act.put, List.setIfInBounds_toArray, List.set_cons_zero, List.set_cons_succ, i64_w, i32_w]
              rfl
            refine pure_ (i := 20) (N := some 3) (v := ?_) (a' := ?_) #[true, true, true, true, true, true, true, true, true, true, true, true, true, true, true, true, true, true, true, true, true] rfl rfl (any_of HT_.out (by kernel_rfl)) (fun _ _ _ h => h) (Or.inl ⟨by rfl, ?_⟩) ?_ ?_
            rotate_left
            · intro w'
              go_simp
              with_reducible rfl
            rotate_left
            · simp only [Act.put, List.setIfInBounds_toArray, List.set_cons_zero, List.set_cons_succ, i64_w, i32_w]
              rfl
            refine done_ (done_of HT_.out (by kernel_rfl)) ?_
            try go_wp2
            go_roundg k1
            case measure => have := HK1.out; omega
            case rel => exact ⟨(y118), (wrap64 (x4_1 + 1)), (by first | rfl | (simp; done) | (simp [*]; done)), H', ⟨by have := HK1.out; omega⟩, ⟨by (with_reducible repeat (first | apply Kd.S_alloc | apply Kd.S_drewN | apply Kd.S_drew)); exact HO120.out⟩, ⟨by repeat (first | (with_reducible first | exact HB.out | apply below_alloc | apply pw_below_drewN | apply below_drew1) | exact HB.out)⟩⟩
          · rw [if_neg c5] at H
            exact absurd H (by simp)
        · rw [if_neg c3] at H
          exact absurd H (by simp)
      · rw [if_neg c2] at H
        have c2b0 : decide (x4_1 < (l0.length : Int)) = false := decide_eq_false c2
        clear c2
        obtain rfl := Option.some.inj H
        go_wp2
        go_ret
        exact ⟨_, by first | rfl | (simp [errW_none, errW_some] <;> rfl) | (simp [*, errW_none, errW_some] <;> rfl), by (with_reducible repeat (first | apply Kd.S_alloc | apply Kd.S_drewN | apply Kd.S_drew)); exact HO_3.out, by repeat (first | (with_reducible first | exact HB.out | apply below_alloc | apply pw_below_drewN | apply below_drew1) | exact HB.out)⟩

end Go.Proofs.Ytbhmncenbpdcjaa.P
end
section
/- Copies of facts and of changes, and changes that are the same: plain. -/
namespace Go.Proofs.Ytbhmncenbpdcjaa.P
open Go.RowKit Go.Proofs.YtbhmncenbpdcjaaW.PrintWords Go.Proofs.YtbhmncenbpdcjaaW.PrintLast Go.Proofs.YtbhmncenbpdcjaaW.PrintMore
theorem rdC_nat (l : List Ch) (i : Nat) (h : i < l.length) : rd_T53 l (i : Nat) = l[i] := by unfold rd_T53; simp [List.getD, h]
theorem copy_f (l : List Int) (h : l.length < 140737488355328) : carrackref00_Copy.f l = some l := by
  unfold carrackref00_Copy.f
  rw [if_pos (by simpa using h)]
  rfl
theorem copyFacts_l0 (l : List F) (hl : l.length ≤ 4194304) (hs : ∀ x ∈ l, x.f1.length < 140737488355328) : ∀ (d i k : Nat), i + d = l.length → d < k → carrackref00_CopyFacts.l0 k l (l.take i) (i : Int) = some l := by
  intro d
  induction d with
  | zero =>
    intro i k hi hk
    obtain ⟨k, rfl⟩ : ∃ m, k = m + 1 := ⟨k - 1, by omega⟩
    unfold carrackref00_CopyFacts.l0
    rw [if_neg (by omega), List.take_of_length_le (by omega)]
  | succ d ih =>
    intro i k hi hk
    obtain ⟨k, rfl⟩ : ∃ m, k = m + 1 := ⟨k - 1, by omega⟩
    have h0 : i < l.length := by omega
    unfold carrackref00_CopyFacts.l0
    rw [if_pos (by omega), if_pos (by omega), rd_nat l i h0, copy_f _ (hs _ (List.getElem_mem h0)), Option.bind_some, if_pos (by rw [List.length_take]; omega), wrapS (by omega)]
    have : l.take i ++ [(⟨⟨l[i].f0.f0, l[i].f0.f1, l[i].f0.f2, l[i].f0.f3⟩, l[i].f1⟩ : F)] = l.take (i + 1) := by
      rw [List.take_add_one, List.getElem?_eq_getElem h0]; rfl
    rw [this]
    exact ih (i + 1) k (by omega) (by omega)
theorem copyFacts_f (l : List F) (hl : l.length ≤ 4194304) (hs : ∀ x ∈ l, x.f1.length < 140737488355328) : carrackref00_CopyFacts.f (l.length + 1) l = some l :=
  copyFacts_l0 l hl hs l.length 0 (l.length + 1) (by omega) (by omega)
theorem copyChanges_l0 (l : List Ch) (hl : l.length ≤ 4194304) (hs : ∀ x ∈ l, x.f1.length < 140737488355328) : ∀ (d i k : Nat), i + d = l.length → d < k → carrackref00_CopyChanges.l0 k l (l.take i) (i : Int) = some l := by
  intro d
  induction d with
  | zero =>
    intro i k hi hk
    obtain ⟨k, rfl⟩ : ∃ m, k = m + 1 := ⟨k - 1, by omega⟩
    unfold carrackref00_CopyChanges.l0
    rw [if_neg (by omega), List.take_of_length_le (by omega)]
  | succ d ih =>
    intro i k hi hk
    obtain ⟨k, rfl⟩ : ∃ m, k = m + 1 := ⟨k - 1, by omega⟩
    have h0 : i < l.length := by omega
    unfold carrackref00_CopyChanges.l0
    rw [if_pos (by omega), if_pos (by omega), rdC_nat l i h0, copy_f _ (hs _ (List.getElem_mem h0)), Option.bind_some, if_pos (by rw [List.length_take]; omega), wrapS (by omega)]
    have : l.take i ++ [(⟨⟨l[i].f0.f0, l[i].f0.f1, l[i].f0.f2, l[i].f0.f3⟩, l[i].f1, l[i].f2⟩ : Ch)] = l.take (i + 1) := by
      rw [List.take_add_one, List.getElem?_eq_getElem h0]; rfl
    rw [this]
    exact ih (i + 1) k (by omega) (by omega)
theorem copyChanges_f (l : List Ch) (hl : l.length ≤ 4194304) (hs : ∀ x ∈ l, x.f1.length < 140737488355328) : carrackref00_CopyChanges.f (l.length + 1) l = some l :=
  copyChanges_l0 l hl hs l.length 0 (l.length + 1) (by omega) (by omega)
theorem changes_l0 (l : List Ch) (hl : l.length ≤ 4194304) (b : Nat) (hs : ∀ x ∈ l, x.f1.length < b) (hb : b ≤ 9223372036854775807) : ∀ (d i k : Nat), i + d = l.length → d + b < k → carrackref00_Changes.l0 k l l (i : Int) = some true := by
  intro d
  induction d with
  | zero =>
    intro i k hi hk
    obtain ⟨k, rfl⟩ : ∃ m, k = m + 1 := ⟨k - 1, by omega⟩
    unfold carrackref00_Changes.l0
    rw [if_neg (by omega)]
  | succ d ih =>
    intro i k hi hk
    obtain ⟨k, rfl⟩ : ∃ m, k = m + 1 := ⟨k - 1, by omega⟩
    have h0 : i < l.length := by omega
    unfold carrackref00_Changes.l0
    rw [if_pos (by omega), if_pos (by omega), if_pos (by omega), if_neg (by simp), if_neg (by simp), same_f _ _ (by have := hs _ (List.getElem_mem h0); rw [rdC_nat l i h0]; omega) k (by have := hs _ (List.getElem_mem h0); rw [rdC_nat l i h0]; omega), Option.bind_some, if_pos (by simp), wrapS (by omega)]
    exact ih (i + 1) k (by omega) (by omega)
theorem changes_f (l : List Ch) (hl : l.length ≤ 4194304) (hs : ∀ x ∈ l, x.f1.length < 140737488355328) : carrackref00_Changes.f (l.length + 140737488355328 + 1) l l = some true := by
  unfold carrackref00_Changes.f
  rw [if_pos rfl]
  exact changes_l0 l hl 140737488355328 hs (by decide) l.length 0 _ (by omega) (by omega)
theorem copyFacts_any (A0 : Option Addr) (c0 : Nat) (l : List F) (w : World) (hr : Kd.C k47 w A0 l.length l) (hc : l.length ≤ c0) (hl : l.length ≤ 4194304) (hs : ∀ x ∈ l, x.f1.length < 140737488355328) :
    Calls Try.prog 14 #[.slice A0 l.length c0] w fun e w' => ∃ A n, e = .returned (.slice A l.length n) ∧ l.length ≤ n ∧ Kd.C k47 w' A l.length l ∧ Below w.heap.size w w' := by
  refine (carrackref00_CopyFacts.calls (l.length + 1) A0 c0 l l w hr hc (copyFacts_f l hl hs)).mono ?_
  rintro e w' ⟨v, rfl, hS, hb⟩
  obtain ⟨A, n, rfl, hn, hF⟩ := Kd.S_V (base' := 0) hS
  exact ⟨A, n, rfl, hn, Kd.F_now hF, hb⟩
theorem copyChanges_any (A0 : Option Addr) (c0 : Nat) (l : List Ch) (w : World) (hr : Kd.C k53 w A0 l.length l) (hc : l.length ≤ c0) (hl : l.length ≤ 4194304) (hs : ∀ x ∈ l, x.f1.length < 140737488355328) :
    Calls Try.prog 15 #[.slice A0 l.length c0] w fun e w' => ∃ A n, e = .returned (.slice A l.length n) ∧ l.length ≤ n ∧ Kd.C k53 w' A l.length l ∧ Below w.heap.size w w' := by
  refine (carrackref00_CopyChanges.calls (l.length + 1) A0 c0 l l w hr hc (copyChanges_f l hl hs)).mono ?_
  rintro e w' ⟨v, rfl, hS, hb⟩
  obtain ⟨A, n, rfl, hn, hF⟩ := Kd.S_V (base' := 0) hS
  exact ⟨A, n, rfl, hn, Kd.F_now hF, hb⟩
theorem changes_any (A0 : Option Addr) (c0 : Nat) (A1 : Option Addr) (c1 : Nat) (l : List Ch) (w : World) (hr0 : Kd.C k53 w A0 l.length l) (hc0 : l.length ≤ c0) (hr1 : Kd.C k53 w A1 l.length l) (hc1 : l.length ≤ c1) (hl : l.length ≤ 4194304) (hs : ∀ x ∈ l, x.f1.length < 140737488355328) :
    Calls Try.prog 20 #[.slice A0 l.length c0, .slice A1 l.length c1] w fun e w' => e = .returned (.bool true) ∧ Below w.heap.size w w' :=
  carrackref00_Changes.calls _ A0 c0 l A1 c1 l true w hr0 hc0 hr1 hc1 (changes_f l hl hs)
end Go.Proofs.Ytbhmncenbpdcjaa.P
end
section
/- FactFresh: its walk. -/
namespace Go.Proofs.Ytbhmncenbpdcjaa.P.Q
open Go Go.Shelf Go.RowKit Go.Proofs.Ytbhmncenbpdcjaa.P Go.Proofs.YtbhmncenbpdcjaaW.PrintWords Go.Proofs.YtbhmncenbpdcjaaW.PrintLast Go.Proofs.YtbhmncenbpdcjaaW.PrintMore
set_option linter.unusedVariables false
set_option linter.unusedSimpArgs false
attribute [local go_sem] Oper.semAt_some
/-- Apply, of whatever facts: its row may be spoiled. -/
theorem apply_full (A0 : Option Addr) (c0 : Nat) (l0 : List F) (A1 : Option Addr) (c1 : Nat) (l1 : List Ch) (w : World) (hr0 : Kd.C k47 w A0 l0.length l0) (hc0 : l0.length ≤ c0) (hr1 : Kd.C k53 w A1 l1.length l1) (hc1 : l1.length ≤ c1)
    (hbig : (l0.length + l1.length) * 64 ≤ 140737488355328) (hs0 : ∀ x ∈ l0, x.f1.length < 140737488355328) (hs1 : ∀ x ∈ l1, x.f1.length < 140737488355328) :
    Calls Try.prog 16 #[.slice A0 l0.length c0, .slice A1 l1.length c1] w fun e w' => ∃ (A : Option Addr) (n cap : Nat), e = .returned (.slice A n cap) ∧ n ≤ 9223372036854775807 ∧ (n = 0 ∨ ∃ gx, A = some ⟨gx, 0, none⟩ ∧ XRow w.heap.size w' gx n cap) ∧ Below w.heap.size w w' := by
  cases ho : ordB l0 with
  | true =>
    refine (apply_ord A0 c0 l0 A1 c1 l1 w hr0 hc0 hr1 hc1 ((ordB_iff l0).1 ho) hbig hs0 hs1).mono ?_
    rintro e w' ⟨v, rfl, hR, hb⟩
    obtain ⟨_, _, _, _, hCm⟩ := Kd.R_reads hR
    have hm := hCm.2.1
    rcases xRow_of hR with ⟨rfl, h0⟩ | ⟨gx, cap, rfl, hX⟩
    · exact ⟨none, 0, 0, rfl, by decide, .inl rfl, hb⟩
    · exact ⟨_, _, _, rfl, hm, .inr ⟨gx, rfl, hX⟩, hb⟩
  | false =>
    refine (apply_any A0 c0 l0 A1 c1 l1 w hr0 hc0 hr1 hc1 hbig hs0 hs1).mono ?_
    rintro e w' ⟨v, rfl, hR, hb⟩
    have hnil : applyF l0 l1 = [] := by unfold applyF; rw [ho]; rfl
    rw [hnil] at hR
    obtain ⟨A, c, rfl⟩ := Kd.R_slice hR
    exact ⟨A, 0, c, rfl, by decide, .inl rfl, hb⟩
/-- Between two rounds of the spoiling. -/
def FrI (n2 : Nat) (w2 : World) (A : Option Addr) (n cap : Nat) (W : World) : Prop := (n = 0 ∨ ∃ gx, A = some ⟨gx, 0, none⟩ ∧ XRow n2 W gx n cap) ∧ Below n2 w2 W
set_option maxRecDepth 100000 in
set_option maxHeartbeats 8000000 in
theorem factFresh_any (A0 : Option Addr) (c0 : Nat) (l0 : List F) (A1 : Option Addr) (c1 : Nat) (l1 : List Ch) (k : K) (w : World) (hr0 : Kd.C k47 w A0 l0.length l0) (hc0 : l0.length ≤ c0) (hr1 : Kd.C k53 w A1 l1.length l1) (hc1 : l1.length ≤ c1)
    (hf0 : Fit l0) (hl0 : l0.length ≤ 2097152) (hf1 : FitC l1) :
    Calls Try.prog 4 #[.slice A0 l0.length c0, .slice A1 l1.length c1, encK k] w fun e w' => e = .returned (.bool true) ∧ Below w.heap.size w w' := by
  unfold encK
  have hl1 := hf1.len
  have hl0' : l0.length ≤ 4194304 := by omega
  have hl1' : l1.length ≤ 4194304 := by omega
  have HX := Lib.hid (And.intro hr0 (And.intro hr1 (And.intro hf0 (And.intro hf1 (And.intro hc0 hc1)))))
  have HB0 := Lib.hid ((Below.refl w.heap.size w).alloc (Nat.le_refl _) (.cells #[.int .i64 k.f0, .int .u8 k.f1, .string k.f2, .int .i64 k.f3] 30))
  have hq : KeyAt (w.alloc (.cells #[.int .i64 k.f0, .int .u8 k.f1, .string k.f2, .int .i64 k.f3] 30)) w.heap.size k := ⟨by go_simp, by go_simp, by go_simp, by go_simp⟩
  have HK := Lib.hid hq
  have HW1 := Lib.hid (copyFacts_any A0 c0 l0 _ (Kd.C_below hr0 HB0.out) hc0 hl0' hf0.val)
  clear hr0 hr1 hf0 hf1 hc0 hc1 hq
  go_enter Try.func4, Try.ntmps4
  go_wp2_with fail
  refine HW1.out.mono ?_
  rintro e w1 ⟨A2, n2, rfl, h2, hC2, hb2⟩
  have HB1 := Lib.hid (HB0.out.trans (hb2.mono HB0.out.size))
  have HK1 := Lib.hid (HK.out.below hb2)
  have HC1 := Lib.hid (And.intro h2 hC2)
  clear h2 hC2 hb2
  go_wp2_with fail
  refine (copyChanges_any A1 c1 l1 w1 (Kd.C_below HX.out.2.1 HB1.out) HX.out.2.2.2.2.2 hl1' HX.out.2.2.2.1.val).mono ?_
  rintro e w2 ⟨A3, n3, rfl, h3, hC3, hb3⟩
  have HB2 := Lib.hid (HB1.out.trans (hb3.mono HB1.out.size))
  have HK2 := Lib.hid (HK1.out.below hb3)
  -- what is read of both copies, in every world that keeps them
  have HC2 := Lib.hid (And.intro HC1.out.1 (And.intro (Kd.C_below HC1.out.2 hb3) (And.intro h3 hC3)))
  clear h3 hC3 hb3
  go_wp2_with fail
  refine (apply_full A2 n2 l0 A3 n3 l1 w2 HC2.out.2.1 HC2.out.1 HC2.out.2.2.2 HC2.out.2.2.1 (by omega) HX.out.2.2.1.val HX.out.2.2.2.1.val).mono ?_
  rintro e w3 ⟨A4, n4, cap4, rfl, hn4, hX3, hb4⟩
  have HI3 : Hid (FrI w2.heap.size w2 A4 n4 cap4 w3) := Lib.hid ⟨hX3, hb4⟩
  have HK3 := Lib.hid (HK2.out.below hb4)
  clear hX3 hb4
  obtain ⟨k0, k1, k2, k3⟩ := HK3.out
  go_wp2_with fail
  refine (find_any A2 n2 l0 k w3 (Kd.C_below HC2.out.2.1 HI3.out.2) HC2.out.1 (by omega) HX.out.2.2.1.val).mono ?_
  rintro e w4 ⟨v5, rfl, hR5, hb5⟩
  have HS5 := Lib.hid (spoilOk_of (Kd.R_lower hR5.1 HI3.out.2.size) hR5.2)
  have HI4 : Hid (FrI w2.heap.size w2 A4 n4 cap4 w4) := Lib.hid ⟨HI3.out.1.imp id (fun ⟨gx, h1, h2⟩ => ⟨gx, h1, xRow_below h2 hb5⟩), HI3.out.2.trans (hb5.mono HI3.out.2.size)⟩
  clear hR5 hb5 k0 k1 k2 k3
  go_wp2_with fail
  refine (spoil_of HI4.out.2.size HS5.out).mono ?_
  rintro e w5 ⟨⟨v6, rfl⟩, hs6⟩
  have HI5 : Hid (FrI w2.heap.size w2 A4 n4 cap4 w5) := Lib.hid ⟨HI4.out.1.imp id (fun ⟨gx, h1, h2⟩ => ⟨gx, h1, xRow_spoiled h2 hs6⟩), HI4.out.2.trans hs6.1⟩
  clear hs6
  go_wp2
  go_loopw [12] (fun s wr => ∃ i : Nat, i ≤ n4 ∧ s = .int .i64 i ∧ Hid (FrI w2.heap.size w2 A4 n4 cap4 wr)) (fun s _ => n4 - (intOf s).toNat)
  case atStart => exact ⟨0, Nat.zero_le _, rfl, HI5⟩
  case round =>
    obtain ⟨i, hi, rfl, HI⟩ := hrel
    by_cases hlt : i < n4
    · obtain ⟨hX, hb⟩ := HI.out
      rcases hX with h0 | ⟨gx, rfl, hX⟩
      · omega
      have hX' := hX
      obtain ⟨L, hbx, hg, hL, hn, hj⟩ := hX'
      obtain ⟨⟨z, hz⟩, u, hu, ho⟩ := hj i hlt
      have h4 : wr.cell? ⟨gx, i * 5 + 4, none⟩ = some u := by simp [World.cell?, hg, hu]
      have ci0 : (0 : Int) ≤ (i : Int) := by omega
      have ci1 : (i : Int) < (n4 : Int) := by omega
      have ci2 : (n4 : Int) ≤ (cap4 : Int) := by omega
      have HO := Lib.hid (And.intro ho (And.intro hX hb))
      clear hX hb hbx hg hL hn hj hz hu ho
      go_wp2_with fail
      refine (spoil_of HO.out.2.2.size HO.out.1).mono ?_
      rintro e w7 ⟨⟨v7, rfl⟩, hs7⟩
      have HX7 := Lib.hid (And.intro (xRow_spoiled HO.out.2.1 hs7) (HO.out.2.2.trans hs7.1))
      obtain ⟨L', _, hg', _, _, hj'⟩ := xRow_spoiled HO.out.2.1 hs7
      obtain ⟨⟨z', hz'⟩, _⟩ := hj' i hlt
      have h0 : w7.cell? ⟨gx, i * 5, none⟩ = some z' := by simp [World.cell?, hg', hz']
      have hf0 : w7.frozen? ⟨gx, i * 5, none⟩ = false := by simp [World.frozen?, hg']
      clear hs7 hg' hj' hz' h4
      go_wp2
      go_roundw
      case rel => exact ⟨i + 1, hlt, by go_num, Lib.hid ⟨.inr ⟨gx, rfl, (xRow_store HX7.out.1 hlt _).1⟩, HX7.out.2.trans (xRow_store HX7.out.1 hlt _).2⟩⟩
      case measure => simp [intOf]; omega
    · have hb := HI.out.2
      have HB9 := Lib.hid (HB2.out.trans (hb.mono HB2.out.size))
      have HCa := Lib.hid (And.intro (Kd.C_below HC2.out.2.1 hb) (And.intro (Kd.C_below HC2.out.2.2.2 hb) (And.intro (Kd.C_below HX.out.1 HB9.out) (Kd.C_below HX.out.2.1 HB9.out))))
      clear hb
      have hqx : factsQ l0 l0 = true := (factsQ_iff _ _).2 rfl
      have HM := Lib.hid (facts_any A2 n2 l0 A0 c0 l0 wr HCa.out.1 HC2.out.1 HCa.out.2.2.1 HX.out.2.2.2.2.1 HX.out.2.2.1.val)
      rw [hqx] at HM
      clear hqx
      have ci1 : ¬ (i : Int) < (n4 : Int) := by omega
      go_wp2_with fail
      refine HM.out.mono ?_
      rintro e w8 ⟨rfl, hb8⟩
      have HB10 := Lib.hid hb8
      clear hb8
      go_wp2_with fail
      refine (changes_any A3 n3 A1 c1 l1 w8 (Kd.C_below HCa.out.2.1 HB10.out) HC2.out.2.2.1 (Kd.C_below HCa.out.2.2.2 HB10.out) HX.out.2.2.2.2.2 hl1' HX.out.2.2.2.1.val).mono ?_
      rintro e w9 ⟨rfl, hb9⟩
      have HB11 := Lib.hid (HB10.out.trans (hb9.mono HB10.out.size))
      clear hb9
      obtain ⟨xs, hxsd⟩ : ∃ xs, xs = applyF l0 l1 := ⟨_, rfl⟩
      have hxs := applyF_fit HX.out.2.2.1 hl0 HX.out.2.2.2.1
      have HAP := apply_any A2 n2 l0 A3 n3 l1 w9 (Kd.C_below HCa.out.1 HB11.out) HC2.out.1 (Kd.C_below HCa.out.2.1 HB11.out) HC2.out.2.2.1 (by omega) HX.out.2.2.1.val HX.out.2.2.2.1.val
      unfold ApplyEnd at HAP
      rw [← hxsd] at hxs HAP
      have HAP := Lib.hid HAP
      have HXS := Lib.hid (And.intro hxs hxsd)
      clear hxs hxsd
      go_wp2_with fail
      refine HAP.out.mono ?_
      rintro e w10 ⟨v10, rfl, hR10, hb10⟩
      obtain ⟨A6, c6, rfl, hc6, hC6⟩ := Kd.R_reads hR10
      have HB12 := Lib.hid (HB11.out.trans (hb10.mono HB11.out.size))
      have HC6 := Lib.hid (And.intro hc6 hC6)
      clear hR10 hc6 hC6 hb10
      have HRA := refApply_any A0 c0 l0 A1 c1 l1 w10 (Kd.C_below HCa.out.2.2.1 HB12.out) HX.out.2.2.2.2.1 (Kd.C_below HCa.out.2.2.2 HB12.out) HX.out.2.2.2.2.2 HX.out.2.2.1.name HX.out.2.2.2.1.name HX.out.2.2.2.1.val (by exact Nat.le_trans (Nat.mul_le_mul_right 64 (Nat.add_le_add (Nat.add_le_add hl0 hl1) (Nat.le_refl 3))) (by decide))
      unfold RefApplyEnd at HRA
      rw [refApply_applyF, ← HXS.out.2] at HRA
      have HRA := Lib.hid HRA
      go_wp2_with fail
      refine HRA.out.mono ?_
      rintro e w11 ⟨A7, c7, rfl, hc7, hC7, hb11⟩
      have HC7 := Lib.hid (And.intro (Kd.C_below HC6.out.2 hb11) (And.intro hc7 hC7))
      have HB13 := Lib.hid (HB12.out.trans (hb11.mono HB12.out.size))
      clear hc7 hC7 hb11
      have hqx : factsQ xs xs = true := (factsQ_iff _ _).2 rfl
      have HM2 := facts_any A6 c6 xs A7 c7 xs w11 HC7.out.1 HC6.out.1 HC7.out.2.2 HC7.out.2.1 HXS.out.1.val
      rw [hqx] at HM2
      have HM2 := Lib.hid HM2
      clear hqx
      go_wp2_with fail
      refine HM2.out.mono ?_
      rintro e w12 ⟨rfl, hb12⟩
      have HB14 := Lib.hid (HB13.out.trans (hb12.mono HB13.out.size))
      clear hb12
      go_wp2_with fail
      refine (works06 w12).mono ?_
      rintro e w13 ⟨rfl, hb13⟩
      have HB15 := Lib.hid (HB9.out.trans ((HB14.out.trans (hb13.mono HB14.out.size)).mono HB9.out.size))
      clear hb13
      go_wp2
      go_ret
      exact ⟨rfl, HB15.out⟩
end Go.Proofs.Ytbhmncenbpdcjaa.P.Q
end
section
/- How a statement's row ends: the call has answered true, and of what was there nothing has changed: so the row's post holds. Of no program. -/
namespace Go.Proofs.Ytbhmncenbpdcjaa
open Go.RowKit Go.WideShapes Go.ChangeShapes
section
variable {H : Type} {enc : TypeId × Value → H} {P : Program}

theorem trodAll_below (hl : laidOutB P = true) {W W' : World} (hb : Below W.heap.size W W') {sp : Nat → Bool} : ∀ {ts : List TypeId} {vs : List Value} {ds : List (DataW H)} {ps : List MemPlace},
    (∀ t ∈ ts, P.readableRec t = true ∧ t < P.types.size) → DataW.TrodAll enc P W 0 (fun _ => true) true ts vs ds ps → (∀ x ∈ ps, x.block < W.heap.size) → (∀ x ∈ ps, sp x.block = true) → DataW.TrodAll enc P W' 0 sp true ts vs ds ps
  | [], [], [], _, _, h, _, _ => h
  | t :: ts, v :: vs, d :: ds, ps, hr, h, hlt, hsp => by
    obtain ⟨p, q, h1, h2, rfl⟩ := h
    have ht := hr t (by simp)
    exact ⟨p, q, WideElems.Trod_stays hl ht.1 ht.2 h1 (fun x hx => hb.same (hlt x (by simp [hx]))) (fun x hx => hsp x (by simp [hx])),
      trodAll_below hl hb (fun t ht => hr t (by simp [ht])) h2 (fun x hx => hlt x (by simp [hx])) (fun x hx => hsp x (by simp [hx])), rfl⟩
  | [], [], _ :: _, _, _, h, _, _ => by simp [DataW.TrodAll] at h
  | [], _ :: _, _, _, _, h, _, _ => by simp [DataW.TrodAll] at h
  | _ :: _, [], _, _, _, h, _, _ => by simp [DataW.TrodAll] at h
  | _ :: _, _ :: _, [], _, _, h, _, _ => by simp [DataW.TrodAll] at h

theorem law_post {f : Func} {s : ChangeSpec} {apart fresh handsOn again : Bool} {W W' : World} {args : Array Value} {ds gs : List (DataW H)} {before : List MemPlace} {t : TypeId}
    (ht : f.resultTypes = #[t]) (hu : P.underlying t = some .bool) (hl : laidOutB P = true) (hread : ∀ t ∈ f.params.toList, P.readableRec t = true ∧ t < P.types.size)
    (hvs : s.vars = []) (hW : DataW.Whole enc P f.params.toList s.vars apart W args.toList ds gs before)
    (h1 : (s.fn H (ds ++ gs)).results = [.lit (.bool true)]) (h2 : (s.fn H (ds ++ gs)).args = ds) (h3 : (s.fn H (ds ++ gs)).vars = []) (hb : Below W.heap.size W W') :
    s.post enc P f apart fresh handsOn again W args (.bool true) W' := by
  have hlt : ∀ p ∈ before, p.block < W.heap.size := fun p hp => hW.lt p hp
  have hold : ∀ p ∈ before, (fun b => decide (b < W.heap.size)) p.block = true := fun p hp => by simpa using hlt p hp
  have hW2 := hW
  obtain ⟨pa, pv, hA, hV, hps, hz, hn⟩ := hW
  obtain rfl : pv = [] := by rw [hvs] at hV; cases gs <;> simp [DataW.TrodVars] at hV; exact hV
  rw [List.append_nil] at hps
  subst hps
  have hres : ∀ (b : Nat) (sp : Nat → Bool) (hd : Bool), DataW.TrodAll enc P W' b sp hd f.resultTypes.toList ((Value.bool true).resultList f.resultTypes.size) (s.fn H (ds ++ gs)).results [] := fun b sp hd => by
    rw [h1, ht]
    exact trodAll_mk1 (shut_bool hu _)
  have hargs : ∀ sp : Nat → Bool, (∀ p ∈ before, sp p.block = true) → DataW.TrodAll enc P W' 0 sp true f.params.toList args.toList (s.fn H (ds ++ gs)).args before := fun sp hsp => by
    rw [h2]
    exact trodAll_below hl hb hread hA hlt hsp
  have hvars : ∀ sp : Nat → Bool, DataW.TrodVars enc P W' sp s.vars (s.fn H (ds ++ gs)).vars [] := fun sp => by rw [hvs, h3]; rfl
  have hok : ∀ (j : Nat) (t : TypeId) (r : Value), f.resultTypes[j]? = some t → ((Value.bool true).resultList f.resultTypes.size)[j]? = some r → Value.okWide P W' .any 0 t r := ok_one ht rfl (okWide_bool_mk hu _)
  refine ⟨ds, gs, before, [], before, [], hW2, hres _ _ _, hargs _ hold, hvars _, World.keptBut_mono (fun p hp => ⟨hp, Or.inr (.inl hp)⟩) (hb.frame (· ∈ before)), fun _ => ?_⟩
  refine ⟨hok, _, _, ([] ++ before) ++ [], ⟨[] ++ before, [], trodAll_append (hargs _ (fun _ _ => rfl)) (hres _ _ _), hvars _, rfl, ?_, ?_⟩, ?_⟩
  · intro b off hp
    have hin : MemPlace.cell b off ∈ before := by simpa using hp
    rw [hb.frozen (hlt _ hin)]
    exact hz b off hin
  · intro ha
    simpa using hn ha
  · intro p hp _
    simpa using hp
theorem read_of {ts : List TypeId} (h : (ts.all fun t => P.readableRec t && decide (t < P.types.size)) = true) : ∀ t ∈ ts, P.readableRec t = true ∧ t < P.types.size := fun t ht => by
  have := List.all_eq_true.1 h t ht
  simpa using this
end
end Go.Proofs.Ytbhmncenbpdcjaa
end
section
/- How arguments are opened, kind by kind: what can be read as data is of the print's kinds; its bulk and its weights. Of no function. -/
namespace Go.Proofs.Ytbhmncenbpdcjaa
open Go.RowKit Go.WideShapes Go.ChangeShapes Go.Proofs.YtbhmncenbpdcjaaW.PrintWords
set_option linter.unusedVariables false
set_option linter.unusedSimpArgs false

/-- What is asked of a value: its range, its bulk, its weights. -/
structure Gauge (α : Type) where
  ok : α → Prop
  sz : α → Nat
  pos : ∀ x, 1 ≤ sz x
  wt : α → List Nat
def gInt (k : IntKind) : Gauge Int := ⟨fun v => (Lit.int k v).wf = true, fun _ => 1, fun _ => Nat.le_refl _, fun _ => []⟩
def gBool : Gauge Bool := ⟨fun _ => True, fun _ => 1, fun _ => Nat.le_refl _, fun _ => []⟩
def gStr : Gauge ByteArray := ⟨fun s => s.size ≤ maxLen, fun s => s.size + 1, fun _ => by omega, fun s => [s.size]⟩
def gList {α : Type} (b : Nat) (g : Gauge α) : Gauge (List α) := ⟨fun l => l.length ≤ maxLen ∧ ∀ x ∈ l, g.ok x, fun l => (l.map g.sz).sum + 1, fun _ => by omega, fun l => l.length * b :: l.flatMap g.wt⟩
def gPair {α β : Type} (a : Gauge α) (b : Gauge β) : Gauge (α × β) := ⟨fun x => a.ok x.1 ∧ b.ok x.2, fun x => a.sz x.1 + b.sz x.2, fun x => by have := a.pos x.1; omega, fun x => a.wt x.1 ++ b.wt x.2⟩
def gIso {α β : Type} (g : Gauge α) (f : β → α) : Gauge β := ⟨fun x => g.ok (f x), fun x => g.sz (f x) + 1, fun x => by omega, fun x => g.wt (f x)⟩
theorem gList_mem {α : Type} {b : Nat} {g : Gauge α} {l : List α} {x : α} (hx : x ∈ l) : g.sz x ≤ (l.map g.sz).sum := by
  induction l with
  | nil => cases hx
  | cons y l ih =>
    rw [List.map_cons, List.sum_cons]
    rcases List.mem_cons.1 hx with rfl | hx
    · omega
    · have := ih hx; omega
theorem gList_len {α : Type} {b : Nat} {g : Gauge α} {l : List α} : l.length ≤ (l.map g.sz).sum := by
  induction l with
  | nil => simp
  | cons y l ih => rw [List.map_cons, List.sum_cons, List.length_cons]; have := g.pos y; omega

section
variable {H : Type} (enc : TypeId × Value → H) (P : Program)
/-- What is read at type t is of kind d. -/
def Opens (t : TypeId) {α : Type} (d : Kd α) (g : Gauge α) : Prop :=
  P.cellsOf t = d.sz ∧ ∀ (W : World) (base : Nat) (sp : Nat → Bool) (held : Bool) (fuel : Nat) (cs : List Value) (x : DataW H × List MemPlace), DataW.trod enc P W base sp held fuel t cs = some x →
    ∃ v, d.K W v cs ∧ g.ok v ∧ g.sz v ≤ Rows.uptoBulk x.1 ∧ ∀ N, (∀ m ∈ x.1.weights P t, m ≤ N) → ∀ n ∈ g.wt v, n ≤ N
/-- The same of a struct's fields, the first at offset o. -/
def OpensF (fs : List Field) (o : Nat) {α : Type} (d : Kd α) (g : Gauge α) : Prop :=
  ∀ (W : World) (base : Nat) (sp : Nat → Bool) (held : Bool) (n : Nat) (cs : List Value) (xs : List (DataW H × List MemPlace)), xs.length = fs.length → o + d.sz ≤ cs.length →
    (∀ (i : Nat) (f : Field), fs[i]? = some f → DataW.trod enc P W base sp held n f.type ((cs.drop f.offset).take (P.cellsOf f.type)) = xs[i]?) →
    ∃ v, d.K W v ((cs.drop o).take d.sz) ∧ g.ok v ∧ g.sz v ≤ Rows.uptoBulkAll (xs.map (·.1)) ∧ ∀ N, (∀ m ∈ DataW.weightsEach P (fs.map (·.type)) (xs.map (·.1)), m ≤ N) → ∀ n ∈ g.wt v, n ≤ N
variable {enc P}
theorem opens_int {t : TypeId} {k : IntKind} (ht : P.underlying t = some (.int k)) (hc : P.cellsOf t = 1) : Opens enc P t (Kd.int k) (gInt k) := by
  refine ⟨hc, fun W base sp held fuel cs x h => ?_⟩
  obtain ⟨n, rfl, rfl, hw⟩ := DataW.trod_int ht h
  exact ⟨n, rfl, hw, by simp [gInt, Rows.uptoBulk], fun N hN m hm => by simp [gInt] at hm⟩
theorem opens_bool {t : TypeId} (ht : P.underlying t = some .bool) (hc : P.cellsOf t = 1) : Opens enc P t Kd.bool gBool := by
  refine ⟨hc, fun W base sp held fuel cs x h => ?_⟩
  obtain ⟨b, rfl, rfl⟩ := DataW.trod_bool ht h
  exact ⟨b, rfl, trivial, by simp [gBool, Rows.uptoBulk], fun N hN m hm => by simp [gBool] at hm⟩
theorem opens_string {t : TypeId} (ht : P.underlying t = some .string) (hc : P.cellsOf t = 1) : Opens enc P t Kd.string gStr := by
  refine ⟨hc, fun W base sp held fuel cs x h => ?_⟩
  obtain ⟨s, rfl, rfl, hw⟩ := DataW.trod_string ht h
  refine ⟨s, rfl, hw, ?_, fun N hN m hm => ?_⟩
  · simp only [gStr, Rows.uptoBulk, data_length]; omega
  · simp only [gStr, List.mem_singleton] at hm
    subst hm
    have := hN s.data.toList.length (by simp [DataW.weights])
    rwa [data_length] at this
theorem weightsAll_mem {e : TypeId} {ds : List (DataW H)} {d : DataW H} (hd : d ∈ ds) {n : Nat} (hn : n ∈ d.weights P e) : n ∈ DataW.weightsAll P e ds := by
  induction ds with
  | nil => cases hd
  | cons y ds ih =>
    rw [DataW.weightsAll]
    rcases List.mem_cons.1 hd with rfl | hd
    · exact List.mem_append_left _ hn
    · exact List.mem_append_right _ (ih hd)
theorem bulkAll_append (l r : List (DataW H)) : Rows.uptoBulkAll (l ++ r) = Rows.uptoBulkAll l + Rows.uptoBulkAll r := by
  induction l with
  | nil => simp [Rows.uptoBulkAll]
  | cons x l ih => simp only [List.cons_append, Rows.uptoBulkAll, ih]; omega
theorem cells?_cells {w : World} {base : Nat} {a : Addr} {n : Nat} {cs : List Value} (h : w.cells? base a n = some cs) : cs.length = n ∧ (∀ i u, cs[i]? = some u → w.cell? (a.add i) = some u) := by
  unfold World.cells? at h
  split at h
  · refine ⟨by simpa using mapM_some_length h, fun i u hu => ?_⟩
    have hi : i < n := by
      have h1 := (List.getElem?_eq_some_iff.1 hu).1
      have h2 := mapM_some_length h
      simp at h2
      omega
    have h1 := mapM_some_get h i i (by simp [hi])
    exact h1.trans hu
  · cases h
theorem add_add' (ad : Addr) (k j : Nat) : (ad.add k).add j = ad.add (k + j) := by
  unfold Addr.add
  by_cases hk : k = 0
  · subst hk; simp
  · by_cases hj : j = 0
    · subst hj; simp
    · rw [if_neg hj, if_neg hk, if_neg (by omega)]; simp; omega
/-- Values that are chosen one for each place. -/
theorem choose_list {α : Type} (n : Nat) (R : Nat → α → Prop) (h : ∀ i, i < n → ∃ x, R i x) : ∃ l : List α, l.length = n ∧ ∀ (i : Nat) x, l[i]? = some x → R i x := by
  induction n with
  | zero => exact ⟨[], rfl, fun i x hx => by simp at hx⟩
  | succ n ih =>
    obtain ⟨l, hl, hr⟩ := ih (fun i hi => h i (by omega))
    obtain ⟨x, hx⟩ := h n (by omega)
    refine ⟨l ++ [x], by simp [hl], fun i y hy => ?_⟩
    rcases Nat.lt_or_ge i l.length with hi | hi
    · rw [List.getElem?_append_left hi] at hy
      exact hr i y hy
    · rw [List.getElem?_append_right hi] at hy
      have h0 : i - l.length = 0 := by
        have := (List.getElem?_eq_some_iff.1 hy).1
        simp at this; omega
      rw [h0] at hy
      have : i = n := by omega
      subst this
      simp at hy
      subst hy
      exact hx
theorem opens_slice {t e : TypeId} {α : Type} {d : Kd α} {g : Gauge α} (ht : P.underlying t = some (.slice e)) (hc : P.cellsOf t = 1) (ho : Opens enc P e d g) : Opens enc P t (Kd.slice e d) (gList (P.bytesOf e) g) := by
  refine ⟨hc, fun W base sp held fuel cs x h => ?_⟩
  rcases DataW.trod_slice ht h with ⟨rfl, rfl⟩ | ⟨a, len, cap, elems, rest, n, _, rfl, rfl, hb, hl, hm, hlen, hel, hsp, hns⟩
  · refine ⟨[], ⟨none, 0, rfl, Nat.le_refl _, rfl, by simp, fun h => by simp at h⟩, ⟨by simp [maxLen], fun x hx => by cases hx⟩, by simp [gList, Rows.uptoBulk], fun N hN m hm => ?_⟩
    simp [gList] at hm
    omega
  · have each : ∀ i, i < len → ∃ v : α, ∃ y, elems[i]? = some y ∧ (∃ c, c.length = d.sz ∧ d.K W v c ∧ ∀ j u, c[j]? = some u → W.cell? (a.add (i * d.sz + j)) = some u) ∧ g.ok v ∧ g.sz v ≤ Rows.uptoBulk y.1 ∧ ∀ N, (∀ m ∈ y.1.weights P e, m ≤ N) → ∀ n ∈ g.wt v, n ≤ N := by
      intro i hi
      have h1 := hel i hi
      rw [List.getElem?_eq_getElem (by omega)] at h1
      obtain ⟨c, hc1, hc2⟩ := Option.bind_eq_some_iff.1 h1
      obtain ⟨v, hK, hok, hsz, hw⟩ := ho.2 W base sp held n c _ hc2
      obtain ⟨hcl, hcell⟩ := cells?_cells hc1
      refine ⟨v, elems[i], List.getElem?_eq_getElem (by omega), ⟨c, by rw [hcl, ho.1], hK, fun j u hu => ?_⟩, hok, hsz, hw⟩
      have := hcell j u hu
      rw [ho.1] at this
      rw [← add_add', this]
    obtain ⟨l, hll, hl2⟩ := choose_list len _ each
    have hmx : len ≤ 9223372036854775807 := by unfold maxLen at hm; omega
    have hbulk : (l.map g.sz).sum ≤ Rows.uptoBulkAll (elems.map (·.1)) := by
      have key : ∀ k, k ≤ len → ((l.take k).map g.sz).sum ≤ Rows.uptoBulkAll ((elems.take k).map (·.1)) := by
        intro k
        induction k with
        | zero => intro _; simp
        | succ k ih =>
          intro hk
          obtain ⟨y, hy, _, _, hs, _⟩ := hl2 k _ (List.getElem?_eq_getElem (by omega))
          rw [List.take_succ_eq_append_getElem (by omega), List.take_add_one, hy, List.map_append, List.map_append, List.sum_append, bulkAll_append]
          have := ih (by omega)
          simp only [List.map_cons, List.map_nil, List.sum_cons, List.sum_nil, Rows.uptoBulkAll, Option.toList_some]
          omega
      have := key len (Nat.le_refl _)
      rwa [List.take_of_length_le (by omega), List.take_of_length_le (by omega)] at this
    refine ⟨l, ⟨some a, cap, by rw [hll], by omega, ?_⟩, ⟨by unfold maxLen at *; omega, fun x hx => ?_⟩, ?_, fun N hN m hm => ?_⟩
    · refine ⟨rfl, by omega, fun _ => ⟨a, rfl, fun j p hj => ?_⟩⟩
      obtain ⟨_, _, ⟨c, h1, h2, h3⟩, _⟩ := hl2 j p hj
      exact ⟨c, h1, h2, h3⟩
    · obtain ⟨i, hi⟩ := List.getElem?_of_mem hx
      obtain ⟨_, _, _, h, _⟩ := hl2 i x hi
      exact h
    · simp only [gList, Rows.uptoBulk]; omega
    · have hN1 : (elems.length + rest.length) * P.bytesOf e ≤ N := hN _ (by simp [DataW.weights, ht])
      simp only [gList, List.mem_cons] at hm
      rcases hm with rfl | hm
      · refine Nat.le_trans (Nat.mul_le_mul_right _ ?_) hN1
        omega
      · obtain ⟨x, hx, hxm⟩ := List.mem_flatMap.1 hm
        obtain ⟨i, hi⟩ := List.getElem?_of_mem hx
        obtain ⟨y, hy, _, _, _, hw⟩ := hl2 i x hi
        refine hw N (fun q hq => hN q ?_) m hxm
        simp only [DataW.weights, ht, List.mem_cons, List.mem_append]
        exact .inr (.inl (weightsAll_mem (List.mem_map.2 ⟨y, List.mem_of_getElem? hy, rfl⟩) hq))
theorem opensF_last {f : Field} {o : Nat} {α : Type} {d : Kd α} {g : Gauge α} (ho : Opens enc P f.type d g) (hf : f.offset = o) : OpensF enc P [f] o d g := by
  intro W base sp held n cs xs hx hl h
  have h0 := h 0 f rfl
  rw [List.getElem?_eq_getElem (by rw [hx]; exact Nat.zero_lt_one), hf, ho.1] at h0
  obtain ⟨v, hK, hok, hsz, hw⟩ := ho.2 W base sp held n _ _ h0
  obtain ⟨y, rfl⟩ : ∃ y, xs = [y] := by
    match xs, hx with
    | [y], _ => exact ⟨y, rfl⟩
  refine ⟨v, hK, hok, ?_, fun N hN => hw N (fun m hm => hN m ?_)⟩
  · simpa [Rows.uptoBulkAll] using hsz
  · simpa [DataW.weightsEach] using hm
theorem opensF_cons {f : Field} {fs : List Field} {o : Nat} {α β : Type} {d : Kd α} {d2 : Kd β} {g : Gauge α} {g2 : Gauge β} (ho : Opens enc P f.type d g) (hf : f.offset = o) (hr : OpensF enc P fs (o + d.sz) d2 g2) : OpensF enc P (f :: fs) o (Kd.pair d d2) (gPair g g2) := by
  intro W base sp held n cs xs hx hl h
  have h0 := h 0 f rfl
  rw [List.getElem?_eq_getElem (by rw [hx]; simp), hf, ho.1] at h0
  obtain ⟨v, hK, hok, hsz, hw⟩ := ho.2 W base sp held n _ _ h0
  obtain ⟨y, ys, rfl⟩ : ∃ y ys, xs = y :: ys := by
    match xs, hx with
    | y :: ys, _ => exact ⟨y, ys, rfl⟩
  have hl' : o + (d.sz + d2.sz) ≤ cs.length := hl
  obtain ⟨v2, hK2, hok2, hsz2, hw2⟩ := hr W base sp held n cs ys (by simpa using hx) (by omega) (fun i f' hi => h (i + 1) f' (by simpa using hi))
  refine ⟨(v, v2), ⟨(cs.drop o).take d.sz, (cs.drop (o + d.sz)).take d2.sz, ?_, hK, hK2⟩, ⟨hok, hok2⟩, ?_, fun N hN m hm => ?_⟩
  · show (cs.drop o).take (d.sz + d2.sz) = _
    rw [List.take_add, List.drop_drop]
  · simp only [List.map_cons, Rows.uptoBulkAll, gPair]
    have hsz' : g.sz v ≤ Rows.uptoBulk y.1 := hsz
    omega
  · simp only [gPair, List.mem_append] at hm
    rcases hm with hm | hm
    · exact hw N (fun q hq => hN q (by simp only [List.map_cons, DataW.weightsEach, List.mem_append]; exact .inl hq)) m hm
    · exact hw2 N (fun q hq => hN q (by simp only [List.map_cons, DataW.weightsEach, List.mem_append]; exact .inr hq)) m hm
theorem opens_struct {t : TypeId} {fs : Array Field} {α β : Type} {d : Kd α} {g : Gauge α} (f : β → α) (inv : α → β) (hi : ∀ v, f (inv v) = v) (ht : P.underlying t = some (.struct fs)) (hc : P.cellsOf t = d.sz) (ho : OpensF enc P fs.toList 0 d g) :
    Opens enc P t (Kd.iso d f) (gIso g f) := by
  refine ⟨hc, fun W base sp held fuel cs x h => ?_⟩
  obtain ⟨xs, n, rfl, rfl, hl, hlen, hf⟩ := DataW.trod_struct ht h
  obtain ⟨v, hK, hok, hsz, hw⟩ := ho W base sp held n cs xs (by simpa using hlen) (by omega) (fun i f' hi => hf i f' (by simpa using hi))
  rw [List.drop_zero, List.take_of_length_le (by omega)] at hK
  refine ⟨inv v, ?_, ?_, ?_, fun N hN m hm => hw N (fun q hq => hN q ?_) m ?_⟩
  · show d.K W (f (inv v)) cs
    rw [hi]; exact hK
  · show g.ok (f (inv v))
    rw [hi]; exact hok
  · simp only [gIso, Rows.uptoBulk, hi]
    omega
  · simpa [DataW.weights, ht] using hq
  · simpa [gIso, hi] using hm
/-! ## arguments -/
/-- What is known of an argument that was opened. -/
structure Opened {H : Type} (P : Program) (t : TypeId) {α : Type} (g : Gauge α) (v : α) (x : DataW H) : Prop where
  ok : g.ok v
  sz : g.sz v ≤ Rows.uptoBulk x
  wt : ∀ N, (∀ m ∈ x.weights P t, m ≤ N) → ∀ n ∈ g.wt v, n ≤ N
theorem arg_slice {t e : TypeId} {α : Type} {d : Kd α} {g : Gauge (List α)} {W : World} {b0 base : Nat} {sp : Nat → Bool} {held : Bool} {r : Reach} {v : Value} {x : DataW H} {ps : List MemPlace}
    (hO : Opens enc P t (Kd.slice e d) g) (ht : P.underlying t = some (.slice e)) (hv : Value.okWide P W r b0 t v) (h : DataW.Trod enc P W base sp held t v x ps) :
    ∃ A c l, v = .slice A l.length c ∧ l.length ≤ c ∧ Kd.C d W A l.length l ∧ Opened P t g l x := by
  obtain ⟨A, len, c, rfl⟩ := okWide_slice ht hv
  obtain ⟨fuel, hf⟩ := h
  obtain ⟨l, ⟨A', c', he, hl, hC⟩, h1, h2, h3⟩ := hO.2 _ _ _ _ _ _ _ hf
  have he' : [Value.slice A len c] = [Value.slice A' l.length c'] := he
  injection he' with he' _
  injection he' with ha hb hc
  subst ha hb hc
  exact ⟨A, c, l, rfl, hl, hC, h1, h2, h3⟩
theorem arg_struct {t : TypeId} {fs : Array Field} {α : Type} {d : Kd α} {g : Gauge α} {W : World} {b0 base : Nat} {sp : Nat → Bool} {held : Bool} {r : Reach} {v : Value} {x : DataW H} {ps : List MemPlace}
    (hO : Opens enc P t d g) (ht : P.underlying t = some (.struct fs)) (hv : Value.okWide P W r b0 t v) (h : DataW.Trod enc P W base sp held t v x ps) :
    ∃ cs y, v = .agg cs.toArray ∧ d.K W y cs ∧ Opened P t g y x := by
  obtain ⟨cs, rfl, hsz⟩ := okWide_struct ht hv
  obtain ⟨fuel, hf⟩ := h
  obtain ⟨y, hK, h1, h2, h3⟩ := hO.2 _ _ _ _ _ _ _ hf
  exact ⟨cs.toList, y, by simp, hK, h1, h2, h3⟩
theorem arg_string {t : TypeId} {W : World} {b0 base : Nat} {sp : Nat → Bool} {held : Bool} {r : Reach} {v : Value} {x : DataW H} {ps : List MemPlace}
    (ht : P.underlying t = some .string) (hc : P.cellsOf t = 1) (hv : Value.okWide P W r b0 t v) (h : DataW.Trod enc P W base sp held t v x ps) : ∃ s, v = .string s ∧ Opened P t gStr s x := by
  obtain ⟨s, rfl⟩ := okWide_string ht hv
  obtain ⟨fuel, hf⟩ := h
  obtain ⟨s', he, h1, h2, h3⟩ := (opens_string (enc := enc) ht hc).2 _ _ _ _ _ _ _ hf
  have he' : [Value.string s] = [Value.string s'] := he
  injection he' with he' _
  injection he' with ha
  subst ha
  exact ⟨s, rfl, h1, h2, h3⟩
theorem arg_int {t : TypeId} {k : IntKind} {W : World} {b0 base : Nat} {sp : Nat → Bool} {held : Bool} {r : Reach} {v : Value} {x : DataW H} {ps : List MemPlace}
    (ht : P.underlying t = some (.int k)) (hv : Value.okWide P W r b0 t v) (h : DataW.Trod enc P W base sp held t v x ps) : ∃ n, v = .int k n ∧ (Lit.int k n).wf = true := by
  obtain ⟨n, rfl, _, _, hw⟩ := open_int ht hv h
  exact ⟨n, rfl, hw⟩
theorem upto_le {ds gs : List (DataW H)} {d : DataW H} (hk : Rows.uptoSmall H (ds ++ gs) = true) (hd : d ∈ ds) : Rows.uptoBulk d ≤ 1048576 := by
  have h : Rows.uptoBulkAll (ds ++ gs) ≤ 1048576 := of_decide_eq_true hk
  rw [bulkAll_append] at h
  have : Rows.uptoBulk d ≤ Rows.uptoBulkAll ds := by
    clear h hk
    induction ds with
    | nil => cases hd
    | cons y l ih =>
      simp only [Rows.uptoBulkAll]
      rcases List.mem_cons.1 hd with rfl | hd
      · omega
      · have := ih hd; omega
  omega
theorem sized_le {ts : List TypeId} {ds : List (DataW H)} (h : (DataW.weightsEach P ts ds).all (· ≤ reachBytes) = true) {j : Nat} {t : TypeId} {d : DataW H} (ht : ts[j]? = some t) (hd : ds[j]? = some d) : ∀ m ∈ d.weights P t, m ≤ reachBytes := by
  intro m hm
  have := List.all_eq_true.1 h _ (DataW.weights_mem_each ht hd m hm)
  simpa using this
end
end Go.Proofs.Ytbhmncenbpdcjaa
end
section
/- Of the bulk's bound: facts and changes that are fit. -/
namespace Go.Proofs.Ytbhmncenbpdcjaa.P
open Go Go.RowKit Go.Proofs.Ytbhmncenbpdcjaa Go.Proofs.YtbhmncenbpdcjaaW.PrintWords
def gKey : Gauge K := gIso (gPair (gInt .i64) (gPair (gInt .u8) (gPair gStr (gInt .i64)))) (fun x : S30 => (x.f0, x.f1, x.f2, x.f3))
def gFact (b : Nat) : Gauge F := gIso (gPair gKey (gList b (gInt .u8))) (fun x : S47 => (x.f0, x.f1))
def gChange (b : Nat) : Gauge Ch := gIso (gPair gKey (gPair (gList b (gInt .u8)) gBool)) (fun x : S53 => (x.f0, x.f1, x.f2))
theorem ints_sz (l : List Int) : (l.map (gInt .u8).sz).sum = l.length := by
  induction l with
  | nil => rfl
  | cons x l ih => rw [List.map_cons, List.sum_cons, ih, List.length_cons]; show 1 + _ = _; omega
theorem key_sz (k : K) : gKey.sz k = k.f2.size + 5 := by show (1 + (1 + ((k.f2.size + 1) + 1))) + 1 = _; omega
theorem fact_sz (b : Nat) (x : F) : (gFact b).sz x = x.f0.f2.size + x.f1.length + 7 := by
  show (gKey.sz x.f0 + ((x.f1.map (gInt .u8).sz).sum + 1)) + 1 = _
  rw [key_sz, ints_sz]; omega
theorem change_sz (b : Nat) (x : Ch) : (gChange b).sz x = x.f0.f2.size + x.f1.length + 8 := by
  show (gKey.sz x.f0 + (((x.f1.map (gInt .u8).sz).sum + 1) + 1)) + 1 = _
  rw [key_sz, ints_sz]; omega
theorem fit_of (b : Nat) (l : List F) (h : (l.map (gFact b).sz).sum + 1 ≤ 1048576) : Fit l ∧ l.length ≤ 2097152 := by
  have h1 : l.length ≤ _ := gList_len (g := gFact b) (l := l) (b := 0)
  have h2 : ∀ x ∈ l, x.f0.f2.size ≤ 1048576 ∧ x.f1.length ≤ 1048576 := fun x hx => by
    have h3 : (gFact b).sz x ≤ _ := gList_mem (g := gFact b) (b := 0) hx
    rw [fact_sz] at h3
    omega
  exact ⟨⟨by omega, fun x hx => Nat.le_trans (h2 x hx).1 (by decide), fun x hx => Nat.lt_of_le_of_lt (h2 x hx).2 (by decide)⟩, by omega⟩
theorem fitC_of (b : Nat) (l : List Ch) (h : (l.map (gChange b).sz).sum + 1 ≤ 1048576) : FitC l := by
  have h1 : l.length ≤ _ := gList_len (g := gChange b) (l := l) (b := 0)
  have h2 : ∀ x ∈ l, x.f0.f2.size ≤ 1048576 ∧ x.f1.length ≤ 1048576 := fun x hx => by
    have h3 : (gChange b).sz x ≤ _ := gList_mem (g := gChange b) (b := 0) hx
    rw [change_sz] at h3
    omega
  exact ⟨by omega, fun x hx => Nat.le_trans (h2 x hx).1 (by decide), fun x hx => Nat.lt_of_le_of_lt (h2 x hx).2 (by decide)⟩
theorem val_of (b : Nat) (hb : b = 1) (x : F) (h : ∀ n ∈ (gFact b).wt x, n ≤ 140737488351232) : x.f1.length < 140737488355328 := by
  have h1 : x.f1.length * b ∈ (gFact b).wt x := by
    show _ ∈ gKey.wt x.f0 ++ (x.f1.length * b :: _)
    simp
  have h2 := h _ h1
  rw [hb] at h2
  omega
theorem vals_of (b B : Nat) (hb : b = 1) (l : List F) (h : ∀ n ∈ (gList B (gFact b)).wt l, n ≤ 140737488351232) : ∀ x ∈ l, x.f1.length < 140737488355328 := fun x hx =>
  val_of b hb x fun n hn => h n (List.mem_cons_of_mem _ (List.mem_flatMap.2 ⟨x, hx, hn⟩))
theorem valC_of (b : Nat) (hb : b = 1) (x : Ch) (h : ∀ n ∈ (gChange b).wt x, n ≤ 140737488351232) : x.f1.length < 140737488355328 := by
  have h1 : x.f1.length * b ∈ (gChange b).wt x := by
    show _ ∈ gKey.wt x.f0 ++ ((x.f1.length * b :: _) ++ _)
    simp
  have h2 := h _ h1
  rw [hb] at h2
  omega
end Go.Proofs.Ytbhmncenbpdcjaa.P
end
